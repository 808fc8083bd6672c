import Derived.Test.YtppalpflejcjeaaGreatQCcWk5
set_option linter.unusedVariables false
set_option linter.unusedSimpArgs false
set_option maxRecDepth 100000
set_option maxHeartbeats 4000000
namespace Go.Proofs.W
open Go Go.Gm Go.Proofs
open Go.RowKit Go.Shelf
def F60_sh : FSh := ⟨[(.one (.pf 0 0 0)), (.one (.si .i64))], [(.rcd 0 [(.sl (.int .u8) false true), (.si .i64), (.si .u64)])]⟩
def F60_L6_sh : LSh := ⟨(fun ex => match ex with | .norm => [(0, none), (6, none), (8, none), (23, none), (24, none), (25, none)] | .exit i => if i = 0 then [(6, none), (8, none)] else [] | .ret => [(4, none), (5, none)]), [(0, (.one (.pf 0 0 0))), (6, (.one (.si .i64))), (8, (.one (.rw 1 0))), (23, (.one (.rw 2 0))), (24, (.one (.si .i64))), (25, (.one (.si .i64)))], [(.rcd 0 [(.sl (.int .u8) false true), (.si .i64), (.si .u64)]), (.row 0 (.pair (.int .i64) (.int .i64))), (.row 0 (.pair (.int .i64) (.int .i64)))], [⟨(.exit 0), [(6, (.one (.si .i64))), (8, (.one (.rw 1 0)))], [(.rcd 0 [(.sl (.int .u8) false true), (.si .i64), (.si .u64)]), (.row 0 (.pair (.int .i64) (.int .i64)))]⟩], [], []⟩
noncomputable def F60_L6_step : ((Unit × Int × Unit × Unit × Int × Int) × ((List (Int) × Int × Int) × List ((Int × Int)) × List ((Int × Int)))) → T (((Unit × Int × Unit × Unit × Int × Int) × ((List (Int) × Int × Int) × List ((Int × Int)) × List ((Int × Int)))) ⊕ ((Int × Unit) × ((List (Int) × Int × Int) × List ((Int × Int))))) := fun (((), n, (), (), t24, t25), ((c_0, c_1, c_2), out, t23)) =>
 (.test (decide (t25 < t24))
 (.test (decide ((0 ≤ t25) ∧ (t25 < (t23.length : Int))))
 (.sub (t23[(0 + (Int.toNat t25))]?) fun z0 =>
 (.sub (F52 (((), (2 : Int)), (c_0, (c_1, c_2)))) fun z1 =>
 (.test (! z1.1)
 (.test (decide (1 ≤ 1))
 (.test (decide ((0 + out.length) ≤ out.length))
 (.test (decide ((2 * ((out.length + 1) * 17)) ≤ 140737488355328))
 (.test (decide ((0 = 0) ∧ ((out.length + 1) = (List.length ((win out 0 out.length) ++ [z0])))))
 (.test (decide ((0 = 0) ∧ (t23.length = t23.length)))
 (.ret (Sum.inl (((), (n, ((), ((), (t24, (w64 (t25 + 1))))))), (z1.2, (((win out 0 out.length) ++ [z0]), t23)))))
 .fail)
 .fail)
 .fail)
 .fail)
 .fail)
 (.test (decide ((0 = 0) ∧ (out.length = out.length)))
 (.test (decide ((0 = 0) ∧ (t23.length = t23.length)))
 (.ret (Sum.inl (((), (n, ((), ((), (t24, (w64 (t25 + 1))))))), (z1.2, (out, t23)))))
 .fail)
 .fail))))
 .fail)
 (.test (decide ((0 = 0) ∧ (out.length = out.length)))
 (.ret (Sum.inr ((n, ()), ((c_0, (c_1, c_2)), out))))
 .fail))
noncomputable def F60_L6 (v) := loopO (fun v => (F60_L6_step v).run) v
def F60_fo : List FO := [⟨[(.one (.si .i64)), (.one (.rw 1 0))], [(.rcd 0 [(.sl (.int .u8) false true), (.si .i64), (.si .u64)]), (.row 0 (.pair (.int .i64) (.int .i64)))]⟩]
noncomputable def F60_t : ((Unit × Int) × (List (Int) × Int × Int)) → T ((Int × Unit) × ((List (Int) × Int × Int) × List ((Int × Int)))) := fun (((), most), (c_0, c_1, c_2)) =>
 (.sub (F33 (((), most), (c_0, (c_1, c_2)))) fun z0 =>
 (.test (decide ((0 + z0.2.2.length) ≤ z0.2.2.length))
 (.sub (F86 (z0.1.1, (win z0.2.2 0 z0.2.2.length))) fun z1 =>
 (.test (! z1)
 (.test (decide ((0 = 0) ∧ (z0.2.2.length = z0.2.2.length)))
 (.ret ((z0.1.1, ()), z0.2))
 .fail)
 (.test (decide ((0 = 0) ∧ (0 = (List.length ([] : List (Int × Int))))))
 (.test (decide ((0 = 0) ∧ (z0.2.2.length = z0.2.2.length)))
 (.sub (F60_L6 (((), (z0.1.1, ((), ((), ((z0.2.2.length : Int), (0 : Int)))))), (z0.2.1, (([] : List (Int × Int)), z0.2.2)))) fun z2 =>
 (.test (decide ((0 = 0) ∧ (z2.2.2.length = z2.2.2.length)))
 (.ret ((z2.1.1, ()), z2.2))
 .fail))
 .fail)
 .fail)))
 .fail))
noncomputable def F60 (v) := (F60_t v).run
noncomputable def F60_E : TEnv := (((E0.add1 n_F33 F33_sh F33_fo F33).add1 n_F86 F86_sh F86_fo F86).add1 n_F52 F52_sh F52_fo F52)
theorem F60_Eok : (F60_E).OK := (((E0ok.add1 F33_ok).add1 F86_ok).add1 F52_ok)
noncomputable def F60_told : Nat → Option SealT := fun id => if id = 6 then some (LSh.told F60_L6_sh 1 (F60_L6_step)) else none
theorem F60_L6_ok : ToldOK Tryz.prog 1 (loopAt (bodyOf fn_F60) [0]) (LSh.told F60_L6_sh 1 (F60_L6_step)) :=
 loop_ok (E := F60_E) (F60_Eok) (told := F60_told) (l := F60_L6_sh) (step := F60_L6_step) (loopsOK_of (ls := []) (by kernel_rfl) trivial) (by kernel_rfl) (fun v => by kernel_rfl)
theorem F60_ok : FOK Tryz.prog n_F60 F60_sh F60_fo F60 :=
 fn_ok (E := F60_E) (F60_Eok) (told := F60_told) (fl := []) (c := bodyOf fn_F60) (s := F60_sh) (l := F60_fo) (tree := F60_t) fnat_F60 (by kernel_rfl) (by kernel_rfl) (by kernel_rfl) (loopsOK_of (ls := [loopAt (bodyOf fn_F60) [0]]) (by kernel_rfl) ⟨.inr ⟨_, by kernel_rfl, F60_L6_ok⟩, trivial⟩) (fun v => by kernel_rfl)
theorem cut_loop {n : Int} (xs : List Dg) (hx : xs.length ≤ 20) : ∀ (m k : Nat) (K : Int) (c : List Int × Int × Int) (out : List Dg), k + m = xs.length → curOK K c → K + 2 * (m : Int) < 100000000 → out.length ≤ k →
  ∃ c' r, F60_L6 (((), (n, ((), ((), ((xs.length : Int), (k : Int)))))), (c, (out, xs))) = some ((n, ()), (c', r)) ∧ r.length ≤ 20 ∧ curOK (K + 2 * (m : Int)) c'
 | 0, k, K, c, out, hk, hc, hK, ho => by
  obtain ⟨c0, c1, c2⟩ := c
  refine ⟨(c0, c1, c2), out, loopO_done ?_, by omega, hc.mono (by omega)⟩
  rw [F60_L6_step, T.run_test, if_neg (by rw [decide_eq_true_eq]; omega), T.run_test, if_pos (by simp), T.run_ret]
 | m + 1, k, K, c, out, hk, hc, hK, ho => by
  obtain ⟨c0, c1, c2⟩ := c
  have hlt : 0 + k < xs.length := by omega
  have w1 : w64 ((k : Int) + 1) = ((k + 1 : Nat) : Int) := by rw [w64_id (by omega) (by omega)]; omega
  obtain ⟨b, d, e, hc2⟩ := one_ok 2 hc (by omega)
  by_cases hb : (!b) = true
  ·obtain ⟨c', r, e2, h2, h3⟩ := cut_loop xs hx m (k + 1) (K + 2) d (out ++ [xs[0 + k]]) (by omega) hc2 (by omega) (by rw [List.length_append, List.length_singleton]; omega)
   refine ⟨c', r, ?_, h2, h3.mono (by omega)⟩
   rw [← e2]
   refine loopO_next ?_
   rw [F60_L6_step, T.run_test, if_pos (decide_eq_true (by omega)), T.run_test, if_pos (decide_eq_true (by omega)), T.run_sub, Int.toNat_natCast, List.getElem?_eq_getElem hlt, Option.bind_some, T.run_sub, e, Option.bind_some, T.run_test, if_pos hb, T.run_test, if_pos (by rfl), T.run_test, if_pos (by simp), T.run_test, if_pos (decide_eq_true (by omega)), T.run_test, if_pos (by simp [win_all]), T.run_test, if_pos (by simp), T.run_ret, w1, win_all]
  ·obtain ⟨c', r, e2, h2, h3⟩ := cut_loop xs hx m (k + 1) (K + 2) d out (by omega) hc2 (by omega) (by omega)
   refine ⟨c', r, ?_, h2, h3.mono (by omega)⟩
   rw [← e2]
   refine loopO_next ?_
   rw [F60_L6_step, T.run_test, if_pos (decide_eq_true (by omega)), T.run_test, if_pos (decide_eq_true (by omega)), T.run_sub, Int.toNat_natCast, List.getElem?_eq_getElem hlt, Option.bind_some, T.run_sub, e, Option.bind_some, T.run_test, if_neg hb, T.run_test, if_pos (by simp), T.run_test, if_pos (by simp), T.run_ret, w1]
theorem cut_some {K : Int} {c : List Int × Int × Int} (N : Int) (hN : 3 ≤ N ∧ N ≤ 12) (h : curOK K c) (hK : K < 1000000) :
  ∃ n ds c', F60 (((), N), c) = some ((n, ()), (c', ds)) ∧ ds.length ≤ 20 ∧ curOK (K + 100) c' := by
 obtain ⟨c0, c1, c2⟩ := c
 obtain ⟨n, ds, c', e, hl, hc⟩ := polygon_ok N hN h (by omega)
 rw [F60, F60_t, T.run_sub, e, Option.bind_some, T.run_test, if_pos (by simp), T.run_sub]
 dsimp only
 rw [win_all, F86_eq n ds (by omega), Option.bind_some, T.run_test]
 by_cases c : isTri n ds = true
 ·obtain ⟨c'', r, e2, h2, h3⟩ := cut_loop (n := n) ds hl ds.length 0 (K + 60) c' [] (by omega) hc (by omega) (by simp)
  rw [if_neg (by rw [c]; decide), T.run_test, if_pos (by simp), T.run_test, if_pos (by simp), T.run_sub]
  have e2' : F60_L6 (((), (n, ((), ((), ((ds.length : Int), (0 : Int)))))), (c', (([] : List (Int × Int)), ds))) = _ := e2
  rw [e2', Option.bind_some, T.run_test, if_pos (by simp), T.run_ret]
  exact ⟨_, _, _, rfl, h2, h3.mono (by omega)⟩
 ·rw [if_pos (by simp at c ⊢; exact c), T.run_test, if_pos (by simp), T.run_ret]
  exact ⟨_, _, _, rfl, hl, hc.mono (by omega)⟩
def F25_sh : FSh := ⟨[(.one (.sl (.int .u8) false true))], []⟩
def F25_fo : List FO := [⟨[(.one (.si .i64)), (.one (.sl (.pair (.int .i64) (.int .i64)) false true)), (.one (.si .i64))], []⟩]
noncomputable def F25_t : List (Int) → T (Int × List ((Int × Int)) × Int) := fun code =>
 (.sub (F52 (((), (3 : Int)), (code, ((0 : Int), (0 : Int))))) fun z0 =>
 (.test z0.1
 (.test true
 (.sub (F37 (((), [(4 : Int), (6 : Int), (8 : Int)]), z0.2)) fun z1 =>
 (.test true
 (.sub (F95 (z1.1, (w64 (Int.tdiv (w64 (z1.1 - 4)) (2 : Int))))) fun z2 =>
 (.test (decide ((z2.2.length : Int) > 0))
 (.sub (F43 (((), (z2.2.length : Int)), z1.2)) fun z3 =>
 (.test (decide ((0 ≤ z3.1) ∧ (z3.1 < (z2.2.length : Int))))
 (.sub (z2.2[(0 + (Int.toNat z3.1))]?) fun z4 =>
 (.ret (z1.1, (z4, (4 : Int)))))
 .fail))
 (.sub (F60 (((), (9 : Int)), z1.2)) fun z5 =>
 (.test true
 (.sub (F37 (((), [(3 : Int), (4 : Int), (5 : Int), (6 : Int), (2 : Int), (4611686018427387904 : Int)]), z5.2.1)) fun z6 =>
 (.test (decide ((0 + z5.2.2.length) ≤ z5.2.2.length))
 (.ret (z5.1.1, ((win z5.2.2 0 z5.2.2.length), z6.1)))
 .fail))
 .fail))))
 .fail))
 .fail)
 (.sub (F60 (((), (9 : Int)), z0.2)) fun z7 =>
 (.test true
 (.sub (F37 (((), [(3 : Int), (4 : Int), (5 : Int), (6 : Int), (2 : Int), (4611686018427387904 : Int)]), z7.2.1)) fun z8 =>
 (.test (decide ((0 + z7.2.2.length) ≤ z7.2.2.length))
 (.ret (z7.1.1, ((win z7.2.2 0 z7.2.2.length), z8.1)))
 .fail))
 .fail))))
noncomputable def F25 (v) := (F25_t v).run
noncomputable def F25_E : TEnv := (((((E0.add1 n_F52 F52_sh F52_fo F52).add1 n_F37 F37_sh F37_fo F37).add1 n_F95 F95_sh F95_fo F95).add1 n_F43 F43_sh F43_fo F43).add1 n_F60 F60_sh F60_fo F60)
theorem F25_Eok : (F25_E).OK := (((((E0ok.add1 F52_ok).add1 F37_ok).add1 F95_ok).add1 F43_ok).add1 F60_ok)
noncomputable def F25_told : Nat → Option SealT := fun id => none
theorem F25_ok : FOK Tryz.prog n_F25 F25_sh F25_fo F25 :=
 fn_ok (E := F25_E) (F25_Eok) (told := F25_told) (fl := [none, some (.pair (.int .i64) (.int .i64)), none]) (c := bodyOf fn_F25) (s := F25_sh) (l := F25_fo) (tree := F25_t) fnat_F25 (by kernel_rfl) (by kernel_rfl) (by kernel_rfl) (loopsOK_of (ls := []) (by kernel_rfl) trivial) (fun v => by kernel_rfl)
theorem cutsK_short {N K : Nat} (h3 : 3 ≤ N) (h8 : N ≤ 8) (hK : K + 3 ≤ N) : ∀ ds ∈ lookL K (dgL N) [], ds.length ≤ 1000 := fun ds hds => by
 have := List.all_eq_true.1 (cutsK_ok N h8 K (by omega) h3 hK).1 ds hds
 rw [Bool.and_eq_true, decide_eq_true_eq] at this
 omega
theorem F25_some {code : List Int} (h : bytesOK code) : ∃ n ds k, F25 code = some (n, (ds, k)) ∧ ds.length ≤ 1000 := by
 obtain ⟨b, c1, e1, hc1⟩ := one_ok 3 (cur0 h) (by omega)
 rw [F25, F25_t, T.run_sub, e1, Option.bind_some, T.run_test]
 dsimp only
 by_cases hb : b = true
 ·obtain ⟨x, c2, e2, hx, hc2⟩ := among_ok [4, 6, 8] hc1 (by omega) (by simp)
  simp only [List.mem_cons, List.not_mem_nil, or_false] at hx
  obtain ⟨N, K, rfl, eK, h3, h8, hK⟩ : ∃ N K : Nat, x = (N : Int) ∧ w64 (Int.tdiv (w64 (x - 4)) 2) = (K : Int) ∧ 3 ≤ N ∧ N ≤ 8 ∧ K + 3 ≤ N := by
   rcases hx with rfl | rfl | rfl
   ·exact ⟨4, 0, rfl, by decide, by omega, by omega, by omega⟩
   ·exact ⟨6, 1, rfl, by decide, by omega, by omega, by omega⟩
   ·exact ⟨8, 2, rfl, by decide, by omega, by omega, by omega⟩
  rw [if_pos hb, T.run_test, if_pos (by rfl), T.run_sub, e2, Option.bind_some, T.run_test, if_pos (by rfl), T.run_sub]
  dsimp only
  rw [eK, F95_eq N K (by omega) (by omega), Option.bind_some, T.run_test]
  dsimp only
  by_cases hl : ((lookL K (dgL N) []).length : Int) > 0
  ·obtain ⟨y, c3, e3, y0, y1, _, hc3⟩ := pick_ok ((lookL K (dgL N) []).length : Int) hc2 (by omega)
   have y1 := y1 (by omega)
   have hlt : 0 + y.toNat < (lookL K (dgL N) []).length := by omega
   rw [if_pos (decide_eq_true hl), T.run_sub, e3, Option.bind_some, T.run_test, if_pos (decide_eq_true ⟨y0, y1⟩), T.run_sub, List.getElem?_eq_getElem hlt, Option.bind_some, T.run_ret]
   exact ⟨_, _, _, rfl, cutsK_short h3 h8 hK _ (List.getElem_mem hlt)⟩
  ·obtain ⟨n, ds, c', e, hds, hc⟩ := cut_some 9 (by omega) hc2 (by omega)
   obtain ⟨y, c4, e4, hy, hc4⟩ := among_ok [3, 4, 5, 6, 2, 4611686018427387904] hc (by omega) (by simp)
   rw [if_neg (by rw [decide_eq_true_eq]; exact hl), T.run_sub, e, Option.bind_some, T.run_test, if_pos (by rfl), T.run_sub, e4, Option.bind_some, T.run_test, if_pos (by simp), T.run_ret]
   exact ⟨_, _, _, rfl, by dsimp only; rw [win_all]; omega⟩
 ·obtain ⟨n, ds, c', e, hds, hc⟩ := cut_some 9 (by omega) hc1 (by omega)
  obtain ⟨y, c4, e4, hy, hc4⟩ := among_ok [3, 4, 5, 6, 2, 4611686018427387904] hc (by omega) (by simp)
  rw [if_neg hb, T.run_sub, e, Option.bind_some, T.run_test, if_pos (by rfl), T.run_sub, e4, Option.bind_some, T.run_test, if_pos (by simp), T.run_ret]
  exact ⟨_, _, _, rfl, by dsimp only; rw [win_all]; omega⟩
def F88_sh : FSh := ⟨[(.one (.si .i64)), (.one (.sl (.pair (.int .i64) (.int .i64)) false false))], []⟩
def F88_L9_sh : LSh := ⟨(fun ex => match ex with | .norm => [(0, none), (1, none), (6, none), (19, none), (20, none), (21, none), (46, none), (47, none), (48, none)] | .exit i => if i = 2 then [(0, none), (1, none), (19, none), (20, none), (21, none)] else if i = 1 then [(0, none), (1, none), (19, none), (20, none), (21, none)] else if i = 0 then [] else [] | .ret => [(4, none)]), [(0, (.one (.si .i64))), (1, (.one (.sl (.pair (.int .i64) (.int .i64)) false false))), (6, (.one (.pf 0 0 0))), (19, (.one (.sl (.pair (.int .i64) (.int .i64)) false false))), (20, (.one (.si .i64))), (21, (.one (.si .i64))), (46, (.one (.sl (.pair (.int .i64) (.int .i64)) false false))), (47, (.one (.si .i64))), (48, (.one (.si .i64)))], [(.rcd 0 [(.si .i64), (.si .i64)])], [⟨.ret, [(4, (.one .sb))], []⟩, ⟨(.exit 2), [(0, (.one (.si .i64))), (1, (.one (.sl (.pair (.int .i64) (.int .i64)) false false))), (19, (.one (.sl (.pair (.int .i64) (.int .i64)) false false))), (20, (.one (.si .i64))), (21, (.one (.si .i64)))], []⟩], [], []⟩
noncomputable def F88_L9_step : ((Int × List ((Int × Int)) × Unit × List ((Int × Int)) × Int × Int × List ((Int × Int)) × Int × Int) × (Int × Int)) → T (((Int × List ((Int × Int)) × Unit × List ((Int × Int)) × Int × Int × List ((Int × Int)) × Int × Int) × (Int × Int)) ⊕ (Bool ⊕ (Int × List ((Int × Int)) × List ((Int × Int)) × Int × Int))) := fun ((n, ds, (), t19, t20, t21, t46, t47, t48), (d_0, d_1)) =>
 (.test (decide (t48 < t47))
 (.test (decide ((0 ≤ t48) ∧ (t48 < (t46.length : Int))))
 (.sub (t46[(Int.toNat t48)]?) fun z0 =>
 (.sub (F71 ((d_0, d_1), (z0.1, z0.2))) fun z1 =>
 (.test z1
 (.ret (Sum.inr (Sum.inl false)))
 (.ret (Sum.inl ((n, (ds, ((), (t19, (t20, (t21, (t46, (t47, (w64 (t48 + 1)))))))))), (d_0, d_1)))))))
 .fail)
 (.ret (Sum.inr (Sum.inr (n, (ds, (t19, (t20, t21))))))))
noncomputable def F88_L9 (v) := loopO (fun v => (F88_L9_step v).run) v
def F88_L4_sh : LSh := ⟨(fun ex => match ex with | .norm => [(0, none), (1, none), (19, none), (20, none), (21, none)] | .exit i => if i = 0 then [] else [] | .ret => [(4, none)]), [(0, (.one (.si .i64))), (1, (.one (.sl (.pair (.int .i64) (.int .i64)) false false))), (19, (.one (.sl (.pair (.int .i64) (.int .i64)) false false))), (20, (.one (.si .i64))), (21, (.one (.si .i64)))], [], [⟨.ret, [(4, (.one .sb))], []⟩, ⟨(.exit 0), [], []⟩], [], []⟩
noncomputable def F88_L4_step : (Int × List ((Int × Int)) × List ((Int × Int)) × Int × Int) → T ((Int × List ((Int × Int)) × List ((Int × Int)) × Int × Int) ⊕ (Bool ⊕ Unit)) := fun (n, ds, t19, t20, t21) =>
 (.test (decide (t21 < t20))
 (.test (decide ((0 ≤ t21) ∧ (t21 < (t19.length : Int))))
 (.sub (t19[(Int.toNat t21)]?) fun z0 =>
 (.sub (F46 (n, (z0.1, z0.2))) fun z1 =>
 (.test (! z1)
 (.ret (Sum.inr (Sum.inl false)))
 (.test (decide (t21 > 0))
 (.test (decide ((0 ≤ (w64 (t21 - 1))) ∧ ((w64 (t21 - 1)) < (ds.length : Int))))
 (.sub (ds[(Int.toNat (w64 (t21 - 1)))]?) fun z2 =>
 (.sub (F85 ((z2.1, z2.2), (z0.1, z0.2))) fun z3 =>
 (.test (! z3)
 (.ret (Sum.inr (Sum.inl false)))
 (.test (decide (0 ≤ t21))
 (.test (decide ((0 ≤ (Int.toNat t21)) ∧ ((Int.toNat t21) ≤ ds.length)))
 (.sub (F88_L9 ((n, (ds, ((), (t19, (t20, (t21, ((win ds 0 ((Int.toNat t21) - 0)), (((List.length (win ds 0 ((Int.toNat t21) - 0))) : Int), (0 : Int))))))))), (z0.1, z0.2))) fun z4 =>
 (.test (Sum.isLeft z4)
 (.sub (Sum.getLeft? z4) fun z5 =>
 (.ret (Sum.inr (Sum.inl z5))))
 (.sub (Sum.getRight? z4) fun z6 =>
 (.ret (Sum.inl (z6.1, (z6.2.1, (z6.2.2.1, (z6.2.2.2.1, (w64 (z6.2.2.2.2 + 1)))))))))))
 .fail)
 .fail))))
 .fail)
 (.test (decide (0 ≤ t21))
 (.test (decide ((0 ≤ (Int.toNat t21)) ∧ ((Int.toNat t21) ≤ ds.length)))
 (.sub (F88_L9 ((n, (ds, ((), (t19, (t20, (t21, ((win ds 0 ((Int.toNat t21) - 0)), (((List.length (win ds 0 ((Int.toNat t21) - 0))) : Int), (0 : Int))))))))), (z0.1, z0.2))) fun z7 =>
 (.test (Sum.isLeft z7)
 (.sub (Sum.getLeft? z7) fun z8 =>
 (.ret (Sum.inr (Sum.inl z8))))
 (.sub (Sum.getRight? z7) fun z9 =>
 (.ret (Sum.inl (z9.1, (z9.2.1, (z9.2.2.1, (z9.2.2.2.1, (w64 (z9.2.2.2.2 + 1)))))))))))
 .fail)
 .fail)))))
 .fail)
 (.ret (Sum.inr (Sum.inr ()))))
noncomputable def F88_L4 (v) := loopO (fun v => (F88_L4_step v).run) v
def F88_fo : List FO := [⟨[(.one .sb)], []⟩]
noncomputable def F88_t : (Int × List ((Int × Int))) → T Bool := fun (n, ds) =>
 (.sub (F113 n) fun z0 =>
 (.test (! z0)
 (.ret false)
 (.test (decide ((ds.length : Int) > (w64 (n - 3))))
 (.ret false)
 (.sub (F88_L4 (n, (ds, (ds, ((ds.length : Int), (0 : Int)))))) fun z1 =>
 (.test (Sum.isLeft z1)
 (.sub (Sum.getLeft? z1) fun z2 =>
 (.ret z2))
 (.sub (Sum.getRight? z1) fun z3 =>
 (.ret true)))))))
noncomputable def F88 (v) := (F88_t v).run
noncomputable def F88_E : TEnv := ((((E0.add1 n_F113 F113_sh F113_fo F113).add1 n_F46 F46_sh F46_fo F46).add1 n_F85 F85_sh F85_fo F85).add1 n_F71 F71_sh F71_fo F71)
theorem F88_Eok : (F88_E).OK := ((((E0ok.add1 F113_ok).add1 F46_ok).add1 F85_ok).add1 F71_ok)
noncomputable def F88_told : Nat → Option SealT := fun id => if id = 9 then some (LSh.told F88_L9_sh 0 (F88_L9_step)) else if id = 4 then some (LSh.told F88_L4_sh 0 (F88_L4_step)) else none
theorem F88_L9_ok : ToldOK Tryz.prog 0 (loopAt (bodyOf fn_F88) [0, 0]) (LSh.told F88_L9_sh 0 (F88_L9_step)) :=
 loop_ok (E := F88_E) (F88_Eok) (told := F88_told) (l := F88_L9_sh) (step := F88_L9_step) (loopsOK_of (ls := []) (by kernel_rfl) trivial) (by kernel_rfl) (fun v => by kernel_rfl)
theorem F88_L4_ok : ToldOK Tryz.prog 0 (loopAt (bodyOf fn_F88) [0]) (LSh.told F88_L4_sh 0 (F88_L4_step)) :=
 loop_ok (E := F88_E) (F88_Eok) (told := F88_told) (l := F88_L4_sh) (step := F88_L4_step) (loopsOK_of (ls := [loopAt (bodyOf fn_F88) [0, 0]]) (by kernel_rfl) ⟨.inr ⟨_, by kernel_rfl, F88_L9_ok⟩, trivial⟩) (by kernel_rfl) (fun v => by kernel_rfl)
theorem F88_ok : FOK Tryz.prog n_F88 F88_sh F88_fo F88 :=
 fn_ok (E := F88_E) (F88_Eok) (told := F88_told) (fl := []) (c := bodyOf fn_F88) (s := F88_sh) (l := F88_fo) (tree := F88_t) fnat_F88 (by kernel_rfl) (by kernel_rfl) (by kernel_rfl) (loopsOK_of (ls := [loopAt (bodyOf fn_F88) [0]]) (by kernel_rfl) ⟨.inr ⟨_, by kernel_rfl, F88_L4_ok⟩, trivial⟩) (fun v => by kernel_rfl)
theorem F88_L9_eq (n : Int) (ds t19 xs : List Dg) (t20 t21 : Int) (d : Dg) (hl : xs.length < 4611686018427387904) :
  F88_L9 ((n, (ds, ((), (t19, (t20, (t21, (xs, ((xs.length : Int), (0 : Int))))))))), d) = some (if xs.any (crossD d) then .inl false else .inr (n, (ds, (t19, (t20, t21))))) := by
 obtain ⟨a, b⟩ := d
 have h := loop_any (step := fun v => (F88_L9_step v).run) (xs := xs) (crossD (a, b)) (fun k => ((n, (ds, ((), (t19, (t20, (t21, (xs, ((xs.length : Int), (k : Int))))))))), (a, b))) (.inl false) (.inr (n, (ds, (t19, (t20, t21)))))
  (fun k x hx => by
   have hlt := getElem?_lt hx
   have w1 : w64 ((k : Int) + 1) = ((k + 1 : Nat) : Int) := by rw [w64_id (by omega) (by omega)]; omega
   rw [F88_L9_step, T.run_test, if_pos (decide_eq_true (by omega)), T.run_test, if_pos (decide_eq_true (by omega)), T.run_sub, Int.toNat_natCast, hx, Option.bind_some, T.run_sub, F71_eq, Option.bind_some, T.run_test, w1]
   cases crossD (a, b) x <;> rfl)
  (by rw [F88_L9_step, T.run_test, if_neg (by simp), T.run_ret])
 simp only [Int.natCast_zero] at h
 exact h
theorem F88_eq (n : Int) (ds : List Dg) (hl : ds.length < 4611686018427387904) : F88 (n, ds) = some (isCut n ds) := by
 rw [F88, F88_t, T.run_sub, F113, F113_t, T.run_sub, F112_eq, Option.bind_some, T.run_ret, Option.bind_some, T.run_test, isCut]
 cases hn : inB 3 12 n with
 | false => rfl
 | true =>
  rw [inB_iff] at hn
  have w3 : w64 (n - 3) = n - 3 := w64_id (by omega) (by omega)
  rw [if_neg (by simp), T.run_test, w3]
  by_cases he : (ds.length : Int) ≤ n - 3
  ·have h := loop_any (step := fun v => (F88_L4_step v).run) (xs := List.range ds.length) (badT n ds) (fun k => (n, (ds, (ds, ((ds.length : Int), (k : Int)))))) (.inl false) (.inr ())
    (fun k x hx => by
     obtain ⟨hk, e⟩ := List.getElem?_eq_some_iff.1 hx
     simp only [List.getElem_range] at e
     subst e
     rw [List.length_range] at hk
     have g0 := gD_some hk
     have w1 : w64 ((k : Int) + 1) = ((k + 1 : Nat) : Int) := by rw [w64_id (by omega) (by omega)]; omega
     have tw : win ds 0 (k - 0) = ds.take k := win_take _ _
     have hcr := F88_L9_eq n ds ds (ds.take k) (ds.length : Int) (k : Int) (gD ds k) (by simp; omega)
     have hcr' : F88_L9 ((n, (ds, ((), (ds, ((ds.length : Int), ((k : Int), ((ds.take k), (((ds.take k).length : Int), (0 : Int))))))))), ((gD ds k).1, (gD ds k).2)) = _ := hcr
     have hdg : F46 (n, ((gD ds k).1, (gD ds k).2)) = some (inDg n (gD ds k)) := F46_eq n (gD ds k) (by omega) (by omega)
     rw [F88_L4_step, T.run_test, if_pos (decide_eq_true (by omega)), T.run_test, if_pos (decide_eq_true (by omega)), T.run_sub, Int.toNat_natCast, g0, Option.bind_some, T.run_sub, hdg, Option.bind_some, T.run_test, badT]
     cases hd : inDg n (gD ds k) with
     | false => rfl
     | true =>
      rw [if_neg (by simp), T.run_test]
      by_cases hk0 : 0 < k
      ·have w2 : w64 ((k : Int) - 1) = ((k - 1 : Nat) : Int) := by rw [w64_id (by omega) (by omega)]; omega
       have g1 := gD_some (show k - 1 < ds.length by omega)
       have hls : F85 (((gD ds (k - 1)).1, (gD ds (k - 1)).2), ((gD ds k).1, (gD ds k).2)) = some (ltD (gD ds (k - 1)) (gD ds k)) := F85_eq _ _
       rw [if_pos (decide_eq_true (by omega)), T.run_test, w2, if_pos (decide_eq_true (by omega)), T.run_sub, Int.toNat_natCast, g1, Option.bind_some, T.run_sub, hls, Option.bind_some, T.run_test, decide_eq_true hk0]
       cases ltD (gD ds (k - 1)) (gD ds k) with
       | false => rfl
       | true =>
        rw [if_neg (by simp), T.run_test, if_pos (decide_eq_true (by omega)), T.run_test, if_pos (decide_eq_true (by omega)), T.run_sub, tw, hcr', Option.bind_some, T.run_test, ← w1]
        cases (ds.take k).any (crossD (gD ds k)) <;> rfl
      ·rw [if_neg (by rw [decide_eq_true_eq]; omega), T.run_test, if_pos (decide_eq_true (by omega)), T.run_test, if_pos (decide_eq_true (by omega)), T.run_sub, tw, hcr', Option.bind_some, T.run_test, decide_eq_false hk0, ← w1]
       cases (ds.take k).any (crossD (gD ds k)) <;> rfl)
    (by rw [F88_L4_step, T.run_test, if_neg (by simp), T.run_ret])
   simp only [Int.natCast_zero] at h
   rw [if_neg (by rw [decide_eq_true_eq]; omega), T.run_sub, F88_L4, h, Option.bind_some, T.run_test, decide_eq_true he]
   cases (List.range ds.length).any (badT n ds) <;> rfl
  ·rw [if_pos (decide_eq_true (by omega)), T.run_ret, decide_eq_false he]
   rfl
def F48_sh : FSh := ⟨[(.one (.si .i64)), (.one (.sl (.pair (.int .i64) (.int .i64)) false false)), (.one (.si .i64))], []⟩
def F48_fo : List FO := [⟨[(.one .sb), (.one .sb)], []⟩]
noncomputable def F48_t : (Int × List ((Int × Int)) × Int) → T (Bool × Bool) := fun (n, ds, size) =>
 (.sub (F88 (n, ds)) fun z0 =>
 (.test (! z0)
 (.ret (false, false))
 (.test (decide (size < 3))
 (.ret (false, false))
 (.sub (F75 (n, (ds, size))) fun z1 =>
 (.ret (z1, true))))))
noncomputable def F48 (v) := (F48_t v).run
noncomputable def F48_E : TEnv := ((E0.add1 n_F88 F88_sh F88_fo F88).add1 n_F75 F75_sh F75_fo F75)
theorem F48_Eok : (F48_E).OK := ((E0ok.add1 F88_ok).add1 F75_ok)
noncomputable def F48_told : Nat → Option SealT := fun id => none
theorem F48_ok : FOK Tryz.prog n_F48 F48_sh F48_fo F48 :=
 fn_ok (E := F48_E) (F48_Eok) (told := F48_told) (fl := []) (c := bodyOf fn_F48) (s := F48_sh) (l := F48_fo) (tree := F48_t) fnat_F48 (by kernel_rfl) (by kernel_rfl) (by kernel_rfl) (loopsOK_of (ls := []) (by kernel_rfl) trivial) (fun v => by kernel_rfl)
theorem F48_eq (n : Int) (ds : List Dg) (size : Int) (hl : ds.length < 4611686018427387904) : F48 (n, (ds, size)) = some (ieR n ds size) := by
 unfold ieR
 rw [F48, F48_t, T.run_sub, F88_eq n ds hl, Option.bind_some, T.run_test]
 by_cases c : isCut n ds = true
 ·obtain ⟨N, rfl, h3, h12, hlen, hc⟩ := isCut_cut c
  rw [if_neg (by rw [c]; decide), T.run_test]
  by_cases hs : size < 3
  ·rw [if_pos (decide_eq_true hs), T.run_ret, if_neg (by omega)]
  ·rw [if_neg (by rw [decide_eq_true_eq]; exact hs), T.run_sub, F75_eq size h3 h12 hlen hc, Option.bind_some, T.run_ret, if_pos ⟨c, by omega⟩, Int.toNat_natCast]
 ·rw [if_pos (by simp at c ⊢; exact c), T.run_ret, if_neg fun h => c h.1]
def F26_sh : FSh := ⟨[(.one (.sl (.int .u8) false true))], []⟩
def F26_L4_sh : LSh := ⟨(fun ex => match ex with | .norm => [(3, none), (4, none), (5, none)] | .exit i => if i = 0 then [(3, none), (4, none)] else [] | .ret => [(2, none)]), [(3, (.one (.pf 0 0 0))), (4, (.one (.rw 1 0))), (5, (.one (.si .i64)))], [(.rcd 0 [(.sl (.int .u8) false true), (.si .i64), (.si .u64)]), (.row 0 (.int .i64))], [⟨(.exit 0), [(3, (.one (.pf 0 0 0))), (4, (.one (.rw 1 0)))], [(.rcd 0 [(.sl (.int .u8) false true), (.si .i64), (.si .u64)]), (.row 0 (.int .i64))]⟩], [], []⟩
noncomputable def F26_L4_step : ((Unit × Unit × Int) × ((List (Int) × Int × Int) × List (Int))) → T (((Unit × Unit × Int) × ((List (Int) × Int × Int) × List (Int))) ⊕ ((Unit × Unit) × ((List (Int) × Int × Int) × List (Int)))) := fun (((), (), k), ((c_0, c_1, c_2), out)) =>
 (.test (decide (k > 0))
 (.sub (F43 (((), (3 : Int)), (c_0, (c_1, c_2)))) fun z0 =>
 (.test (decide (1 ≤ 1))
 (.test (decide ((0 + out.length) ≤ out.length))
 (.test (decide ((2 * ((out.length + 1) * 9)) ≤ 140737488355328))
 (.test (decide ((0 = 0) ∧ ((out.length + 1) = (List.length ((win out 0 out.length) ++ [(w64 (3 + z0.1))])))))
 (.ret (Sum.inl (((), ((), (w64 (k - 1)))), (z0.2, ((win out 0 out.length) ++ [(w64 (3 + z0.1))])))))
 .fail)
 .fail)
 .fail)
 .fail))
 (.test (decide ((0 = 0) ∧ (out.length = out.length)))
 (.ret (Sum.inr (((), ()), ((c_0, (c_1, c_2)), out))))
 .fail))
noncomputable def F26_L4 (v) := loopO (fun v => (F26_L4_step v).run) v
def F26_L11_sh : LSh := ⟨(fun ex => match ex with | .norm => [(3, none), (4, none)] | .exit i => if i = 3 then [(4, none)] else if i = 2 then [(4, none)] else [] | .ret => [(2, none)]), [(3, (.one (.pf 0 0 0))), (4, (.one (.rw 1 0)))], [(.rcd 0 [(.sl (.int .u8) false true), (.si .i64), (.si .u64)]), (.row 0 (.int .i64))], [⟨(.exit 3), [(4, (.one (.rw 0 0)))], [(.row 0 (.int .i64))]⟩], [], []⟩
noncomputable def F26_L11_step : ((Unit × Unit) × ((List (Int) × Int × Int) × List (Int))) → T (((Unit × Unit) × ((List (Int) × Int × Int) × List (Int))) ⊕ (Unit × List (Int))) := fun (((), ()), ((c_0, c_1, c_2), out)) =>
 (.sub (F43 (((), (2 : Int)), (c_0, (c_1, c_2)))) fun z0 =>
 (.test (decide ((out.length : Int) < (w64 (10 + z0.1))))
 (.test true
 (.test (decide ((0 + out.length) ≤ out.length))
 (.test (decide ((2 * ((out.length + 1) * 9)) ≤ 140737488355328))
 (.test (decide ((0 = 0) ∧ ((out.length + 1) = (List.length ((win out 0 out.length) ++ [(3 : Int)])))))
 (.ret (Sum.inl (((), ()), (z0.2, ((win out 0 out.length) ++ [(3 : Int)])))))
 .fail)
 .fail)
 .fail)
 .fail)
 (.test (decide ((0 = 0) ∧ (out.length = out.length)))
 (.ret (Sum.inr ((), out)))
 .fail)))
noncomputable def F26_L11 (v) := loopO (fun v => (F26_L11_step v).run) v
def F26_fo : List FO := [⟨[(.one (.rw 0 0))], [(.row 0 (.int .i64))]⟩]
noncomputable def F26_t : List (Int) → T (Unit × List (Int)) := fun code =>
 (.sub (F43 (((), (5 : Int)), (code, ((0 : Int), (0 : Int))))) fun z0 =>
 (.test (decide ((0 = 0) ∧ (0 = (List.length ([] : List (Int))))))
 (.sub (F26_L4 (((), ((), z0.1)), (z0.2, ([] : List (Int))))) fun z1 =>
 (.sub (F43 (((), (12 : Int)), z1.2.1)) fun z2 =>
 (.test (z2.1 == 0)
 (.test true
 (.sub (F37 (((), [(2 : Int), (12 : Int), (13 : Int), (-1), (4611686018427387904 : Int)]), z2.2)) fun z3 =>
 (.test (decide (1 ≤ 1))
 (.test (decide ((0 + z1.2.2.length) ≤ z1.2.2.length))
 (.test (decide ((2 * ((z1.2.2.length + 1) * 9)) ≤ 140737488355328))
 (.test (decide ((0 = 0) ∧ ((z1.2.2.length + 1) = (List.length ((win z1.2.2 0 z1.2.2.length) ++ [z3.1])))))
 (.ret ((), ((win z1.2.2 0 z1.2.2.length) ++ [z3.1])))
 .fail)
 .fail)
 .fail)
 .fail))
 .fail)
 (.test (z2.1 == 1)
 (.test (decide ((0 = 0) ∧ (z1.2.2.length = z1.2.2.length)))
 (.sub (F26_L11 (((), ()), (z2.2, z1.2.2))) fun z4 =>
 (.test (decide ((0 = 0) ∧ (z4.2.length = z4.2.length)))
 (.ret ((), z4.2))
 .fail))
 .fail)
 (.test (decide ((0 = 0) ∧ (z1.2.2.length = z1.2.2.length)))
 (.ret ((), z1.2.2))
 .fail)))))
 .fail))
noncomputable def F26 (v) := (F26_t v).run
noncomputable def F26_E : TEnv := ((E0.add1 n_F43 F43_sh F43_fo F43).add1 n_F37 F37_sh F37_fo F37)
theorem F26_Eok : (F26_E).OK := ((E0ok.add1 F43_ok).add1 F37_ok)
noncomputable def F26_told : Nat → Option SealT := fun id => if id = 4 then some (LSh.told F26_L4_sh 0 (F26_L4_step)) else if id = 11 then some (LSh.told F26_L11_sh 0 (F26_L11_step)) else none
theorem F26_L4_ok : ToldOK Tryz.prog 0 (loopAt (bodyOf fn_F26) [0]) (LSh.told F26_L4_sh 0 (F26_L4_step)) :=
 loop_ok (E := F26_E) (F26_Eok) (told := F26_told) (l := F26_L4_sh) (step := F26_L4_step) (loopsOK_of (ls := []) (by kernel_rfl) trivial) (by kernel_rfl) (fun v => by kernel_rfl)
theorem F26_L11_ok : ToldOK Tryz.prog 0 (loopAt (bodyOf fn_F26) [1]) (LSh.told F26_L11_sh 0 (F26_L11_step)) :=
 loop_ok (E := F26_E) (F26_Eok) (told := F26_told) (l := F26_L11_sh) (step := F26_L11_step) (loopsOK_of (ls := []) (by kernel_rfl) trivial) (by kernel_rfl) (fun v => by kernel_rfl)
theorem F26_ok : FOK Tryz.prog n_F26 F26_sh F26_fo F26 :=
 fn_ok (E := F26_E) (F26_Eok) (told := F26_told) (fl := []) (c := bodyOf fn_F26) (s := F26_sh) (l := F26_fo) (tree := F26_t) fnat_F26 (by kernel_rfl) (by kernel_rfl) (by kernel_rfl) (loopsOK_of (ls := [loopAt (bodyOf fn_F26) [0], loopAt (bodyOf fn_F26) [1]]) (by kernel_rfl) ⟨.inr ⟨_, by kernel_rfl, F26_L4_ok⟩, ⟨.inr ⟨_, by kernel_rfl, F26_L11_ok⟩, trivial⟩⟩) (fun v => by kernel_rfl)
theorem drawSizes_L4 : ∀ (m : Nat) (K : Int) (c : List Int × Int × Int) (out : List Int), curOK K c → K + 2 * (m : Int) < 100000000 → out.length + m ≤ 20 →
  ∃ c' r, F26_L4 (((), ((), (m : Int))), (c, out)) = some (((), ()), (c', r)) ∧ r.length ≤ 20 ∧ curOK (K + 2 * (m : Int)) c'
 | 0, K, c, out, hc, hK, ho => by
  obtain ⟨c0, c1, c2⟩ := c
  refine ⟨(c0, c1, c2), out, loopO_done ?_, by omega, hc.mono (by omega)⟩
  rw [F26_L4_step, T.run_test, if_neg (by rw [decide_eq_true_eq]; omega), T.run_test, if_pos (by simp), T.run_ret]
 | m + 1, K, c, out, hc, hK, ho => by
  obtain ⟨c0, c1, c2⟩ := c
  obtain ⟨v, d, e, _, _, _, hc2⟩ := pick_ok 3 hc (by omega)
  have w1 : w64 (((m + 1 : Nat) : Int) - 1) = (m : Int) := by rw [w64_id (by omega) (by omega)]; omega
  obtain ⟨c', r, e2, h2, h3⟩ := drawSizes_L4 m (K + 2) d (out ++ [w64 (3 + v)]) hc2 (by omega) (by rw [List.length_append, List.length_singleton]; omega)
  refine ⟨c', r, ?_, h2, h3.mono (by omega)⟩
  rw [← e2]
  refine loopO_next ?_
  rw [F26_L4_step, T.run_test, if_pos (decide_eq_true (by omega)), T.run_sub, e, Option.bind_some, T.run_test, if_pos (by rfl), T.run_test, if_pos (by simp), T.run_test, if_pos (decide_eq_true (by omega)), T.run_test, if_pos (by simp [win_all]), T.run_ret, w1, win_all]
theorem drawSizes_L11 : ∀ (m : Nat) (K : Int) (c : List Int × Int × Int) (out : List Int), curOK K c → K + 2 * (m : Int) < 100000000 → 30 ≤ out.length + m → out.length ≤ 30 →
  ∃ r, F26_L11 (((), ()), (c, out)) = some ((), r) ∧ r.length ≤ 30
 | 0, K, c, out, hc, hK, hm, ho => by
  obtain ⟨c0, c1, c2⟩ := c
  obtain ⟨v, d, e, v0, v1, _, hc2⟩ := pick_ok 2 hc (by omega)
  have v1 := v1 (by omega)
  have w : w64 (10 + v) = 10 + v := w64_id (by omega) (by omega)
  refine ⟨out, loopO_done ?_, ho⟩
  rw [F26_L11_step, T.run_sub, e, Option.bind_some, T.run_test]
  dsimp only
  rw [w, if_neg (by rw [decide_eq_true_eq]; omega), T.run_test, if_pos (by simp), T.run_ret]
 | m + 1, K, c, out, hc, hK, hm, ho => by
  obtain ⟨c0, c1, c2⟩ := c
  obtain ⟨v, d, e, v0, v1, _, hc2⟩ := pick_ok 2 hc (by omega)
  have v1 := v1 (by omega)
  have w : w64 (10 + v) = 10 + v := w64_id (by omega) (by omega)
  by_cases hlt : (out.length : Int) < 10 + v
  ·obtain ⟨r, e2, h2⟩ := drawSizes_L11 m (K + 2) d (out ++ [3]) hc2 (by omega) (by rw [List.length_append, List.length_singleton]; omega) (by rw [List.length_append, List.length_singleton]; omega)
   refine ⟨r, ?_, h2⟩
   rw [← e2]
   refine loopO_next ?_
   rw [F26_L11_step, T.run_sub, e, Option.bind_some, T.run_test]
   dsimp only
   rw [w, if_pos (decide_eq_true hlt), T.run_test, if_pos (by rfl), T.run_test, if_pos (by simp), T.run_test, if_pos (decide_eq_true (by omega)), T.run_test, if_pos (by simp [win_all]), T.run_ret, win_all]
  ·refine ⟨out, loopO_done ?_, ho⟩
   rw [F26_L11_step, T.run_sub, e, Option.bind_some, T.run_test]
   dsimp only
   rw [w, if_neg (by rw [decide_eq_true_eq]; exact hlt), T.run_test, if_pos (by simp), T.run_ret]
theorem F26_some {code : List Int} (h : bytesOK code) : ∃ l, F26 code = some ((), l) ∧ l.length ≤ 1000 := by
 obtain ⟨x, c1, e1, x0, x1, _, hc1⟩ := pick_ok 5 (cur0 h) (by omega)
 have x1 := x1 (by omega)
 obtain ⟨X, rfl⟩ := Int.eq_ofNat_of_zero_le x0
 obtain ⟨c2, r, e2, hr, hc2⟩ := drawSizes_L4 X (0 + 2) c1 [] hc1 (by omega) (by simp; omega)
 obtain ⟨y, c3, e3, y0, y1, _, hc3⟩ := pick_ok 12 hc2 (by omega)
 rw [F26, F26_t, T.run_sub, e1, Option.bind_some, T.run_test, if_pos (by simp), T.run_sub, e2, Option.bind_some, T.run_sub, e3, Option.bind_some, T.run_test]
 dsimp only
 by_cases h0 : (y == 0) = true
 ·obtain ⟨z, c4, e4, hz, hc4⟩ := among_ok [2, 12, 13, -1, 4611686018427387904] hc3 (by omega) (by simp)
  rw [if_pos h0, T.run_test, if_pos (by rfl), T.run_sub, e4, Option.bind_some, T.run_test, if_pos (by rfl), T.run_test, if_pos (by simp), T.run_test, if_pos (decide_eq_true (by omega)), T.run_test, if_pos (by simp [win_all]), T.run_ret]
  refine ⟨_, rfl, ?_⟩
  dsimp only
  rw [win_all, List.length_append, List.length_singleton]
  omega
 ·rw [if_neg h0, T.run_test]
  by_cases h1 : (y == 1) = true
  ·obtain ⟨r2, e5, hr2⟩ := drawSizes_L11 30 (0 + 2 + 2 * (X : Int) + 2) c3 r hc3 (by omega) (by omega) (by omega)
   rw [if_pos h1, T.run_test, if_pos (by simp), T.run_sub, e5, Option.bind_some, T.run_test, if_pos (by simp), T.run_ret]
   exact ⟨_, rfl, by dsimp only; omega⟩
  ·rw [if_neg h1, T.run_test, if_pos (by simp), T.run_ret]
   exact ⟨_, rfl, by omega⟩
def F49_sh : FSh := ⟨[(.one (.sl (.int .i64) false false))], []⟩
def F49_L5_sh : LSh := ⟨(fun ex => match ex with | .norm => [(0, none), (5, none), (6, none), (14, none), (15, none), (16, none)] | .exit i => if i = 0 then [(5, none), (6, none)] else [] | .ret => [(2, none), (3, none), (4, none)]), [(0, (.one (.sl (.int .i64) false false))), (5, (.one (.rw 0 0))), (6, (.one (.si .i64))), (14, (.one (.sl (.int .i64) false false))), (15, (.one (.si .i64))), (16, (.one (.si .i64)))], [(.row 0 (.pair (.int .i64) (.int .i64)))], [⟨.ret, [(2, (.one (.si .i64))), (3, (.one (.rw 0 0))), (4, (.one .sb))], [(.row 0 (.pair (.int .i64) (.int .i64)))]⟩, ⟨(.exit 0), [(5, (.one (.rw 0 0))), (6, (.one (.si .i64)))], [(.row 0 (.pair (.int .i64) (.int .i64)))]⟩], [], []⟩
noncomputable def F49_L5_step : ((List (Int) × Unit × Int × List (Int) × Int × Int) × List ((Int × Int))) → T (((List (Int) × Unit × Int × List (Int) × Int × Int) × List ((Int × Int))) ⊕ (((Int × Unit × Bool) × List ((Int × Int))) ⊕ ((Unit × Int) × List ((Int × Int))))) := fun ((list, (), last, t14, t15, t16), out) =>
 (.test (decide (t16 < t15))
 (.test (decide ((0 ≤ t16) ∧ (t16 < (t14.length : Int))))
 (.sub (t14[(Int.toNat t16)]?) fun z0 =>
 (.sub (F77 (z0, ((3 : Int), (12 : Int)))) fun z1 =>
 (.test (! z1)
 (.test true
 (.ret (Sum.inr (Sum.inl (((0 : Int), ((), false)), ([] : List (Int × Int))))))
 .fail)
 (.test (decide (t16 < (w64 ((list.length : Int) - 1))))
 (.test (decide (1 ≤ 1))
 (.test (decide ((0 + out.length) ≤ out.length))
 (.test (decide ((2 * ((out.length + 1) * 17)) ≤ 140737488355328))
 (.test (decide ((0 = 0) ∧ ((out.length + 1) = (List.length ((win out 0 out.length) ++ [((0 : Int), (w64 (last + (w64 (z0 - 2)))))])))))
 (.ret (Sum.inl ((list, ((), ((w64 (last + (w64 (z0 - 2)))), (t14, (t15, (w64 (t16 + 1))))))), ((win out 0 out.length) ++ [((0 : Int), (w64 (last + (w64 (z0 - 2)))))]))))
 .fail)
 .fail)
 .fail)
 .fail)
 (.test (decide ((0 = 0) ∧ (out.length = out.length)))
 (.ret (Sum.inl ((list, ((), ((w64 (last + (w64 (z0 - 2)))), (t14, (t15, (w64 (t16 + 1))))))), out)))
 .fail)))))
 .fail)
 (.test (decide ((0 = 0) ∧ (out.length = out.length)))
 (.ret (Sum.inr (Sum.inr (((), last), out))))
 .fail))
noncomputable def F49_L5 (v) := loopO (fun v => (F49_L5_step v).run) v
def F49_fo : List FO := [⟨[(.one (.si .i64)), (.one (.rw 0 0)), (.one .sb)], [(.row 0 (.pair (.int .i64) (.int .i64)))]⟩]
noncomputable def F49_t : List (Int) → T ((Int × Unit × Bool) × List ((Int × Int))) := fun list =>
 (.sub (F77 ((list.length : Int), ((1 : Int), (10 : Int)))) fun z0 =>
 (.test (! z0)
 (.test true
 (.ret (((0 : Int), ((), false)), ([] : List (Int × Int))))
 .fail)
 (.test true
 (.sub (F49_L5 ((list, ((), ((1 : Int), (list, ((list.length : Int), (0 : Int)))))), ([] : List (Int × Int)))) fun z1 =>
 (.test (Sum.isLeft z1)
 (.sub (Sum.getLeft? z1) fun z2 =>
 (.test (decide ((0 = 0) ∧ (z2.2.length = z2.2.length)))
 (.ret ((z2.1.1, ((), z2.1.2.2)), z2.2))
 .fail))
 (.sub (Sum.getRight? z1) fun z3 =>
 (.test (decide (z3.1.2 ≥ 12))
 (.test true
 (.ret (((0 : Int), ((), false)), ([] : List (Int × Int))))
 .fail)
 (.test (decide ((0 = 0) ∧ (z3.2.length = z3.2.length)))
 (.ret (((w64 (z3.1.2 + 1)), ((), true)), z3.2))
 .fail)))))
 .fail)))
noncomputable def F49 (v) := (F49_t v).run
noncomputable def F49_E : TEnv := (E0.add1 n_F77 F77_sh F77_fo F77)
theorem F49_Eok : (F49_E).OK := (E0ok.add1 F77_ok)
noncomputable def F49_told : Nat → Option SealT := fun id => if id = 5 then some (LSh.told F49_L5_sh 0 (F49_L5_step)) else none
theorem F49_L5_ok : ToldOK Tryz.prog 0 (loopAt (bodyOf fn_F49) [0]) (LSh.told F49_L5_sh 0 (F49_L5_step)) :=
 loop_ok (E := F49_E) (F49_Eok) (told := F49_told) (l := F49_L5_sh) (step := F49_L5_step) (loopsOK_of (ls := []) (by kernel_rfl) trivial) (by kernel_rfl) (fun v => by kernel_rfl)
theorem F49_ok : FOK Tryz.prog n_F49 F49_sh F49_fo F49 :=
 fn_ok (E := F49_E) (F49_Eok) (told := F49_told) (fl := []) (c := bodyOf fn_F49) (s := F49_sh) (l := F49_fo) (tree := F49_t) fnat_F49 (by kernel_rfl) (by kernel_rfl) (by kernel_rfl) (loopsOK_of (ls := [loopAt (bodyOf fn_F49) [0]]) (by kernel_rfl) ⟨.inr ⟨_, by kernel_rfl, F49_L5_ok⟩, trivial⟩) (fun v => by kernel_rfl)
def coR2 (l : List Int) : (Int × Unit × Bool) × List Dg := if ((decide (1 ≤ l.length ∧ l.length ≤ 10) && l.all (inB 3 12)) && decide (cosL 1 l ≤ 11)) = true then ((cosL 1 l + 1, ((), true)), cosD 1 l) else ((0, ((), false)), [])
theorem F49_loop (l : List Int) (hl : l.length ≤ 10) : ∀ (m k : Nat) (last : Int) (out : List Dg), k + m = l.length → 0 ≤ last ∧ last ≤ 1 + 12 * (k : Int) → out.length ≤ k →
  F49_L5 ((l, ((), (last, (l, ((l.length : Int), (k : Int)))))), out) = some (if (l.drop k).all (inB 3 12) = true then .inr (((), cosL last (l.drop k)), out ++ cosD last (l.drop k)) else .inl (((0 : Int), ((), false)), []))
 | 0, k, last, out, hk, hb, ho => by
  rw [List.drop_of_length_le (by omega), List.all_nil, if_pos rfl]
  refine loopO_done ?_
  rw [F49_L5_step, T.run_test, if_neg (by rw [decide_eq_true_eq]; omega), T.run_test, if_pos (by simp), T.run_ret]
  simp [cosL, cosD]
 | m + 1, k, last, out, hk, hb, ho => by
  have hlt : k < l.length := by omega
  have w1 : w64 ((k : Int) + 1) = ((k + 1 : Nat) : Int) := by rw [w64_id (by omega) (by omega)]; omega
  have w2 : w64 ((l.length : Int) - 1) = (l.length : Int) - 1 := w64_id (by omega) (by omega)
  have hstep : (F49_L5_step ((l, ((), (last, (l, ((l.length : Int), (k : Int)))))), out)).run = some (if inB 3 12 l[k] = true then .inl ((l, ((), (last + (l[k] - 2), (l, ((l.length : Int), ((k + 1 : Nat) : Int)))))), out ++ if k + 1 < l.length then [(0, last + (l[k] - 2))] else []) else .inr (.inl (((0 : Int), ((), false)), []))) := by
   rw [F49_L5_step, T.run_test, if_pos (decide_eq_true (by omega)), T.run_test, if_pos (decide_eq_true (by omega)), T.run_sub, Int.toNat_natCast, List.getElem?_eq_getElem hlt, Option.bind_some, T.run_sub, F77_eq, Option.bind_some, T.run_test]
   cases hi : inB 3 12 l[k] with
   | false => rw [if_pos (by rfl), T.run_test, if_pos (by rfl), T.run_ret]; rfl
   | true =>
    have hi' := inB_iff.1 hi
    have w3 : w64 (l[k] - 2) = l[k] - 2 := w64_id (by omega) (by omega)
    have w4 : w64 (last + (l[k] - 2)) = last + (l[k] - 2) := w64_id (by omega) (by omega)
    rw [if_neg (by simp), T.run_test, w2, w3, w4, w1, if_pos rfl]
    by_cases hk1 : k + 1 < l.length
    ·rw [if_pos (decide_eq_true (by omega)), T.run_test, if_pos (by rfl), T.run_test, if_pos (by simp), T.run_test, if_pos (decide_eq_true (by omega)), T.run_test, if_pos (by simp [win_all]), T.run_ret, if_pos hk1, win_all]
    ·rw [if_neg (by rw [decide_eq_true_eq]; omega), T.run_test, if_pos (by simp), T.run_ret, if_neg hk1, List.append_nil]
  rw [List.drop_eq_getElem_cons hlt, List.all_cons]
  cases hi : inB 3 12 l[k] with
  | false =>
   rw [hi] at hstep
   exact loopO_done hstep
  | true =>
   have hi' := inB_iff.1 hi
   rw [hi, if_pos rfl] at hstep
   have ih := F49_loop l hl m (k + 1) (last + (l[k] - 2)) (out ++ if k + 1 < l.length then [(0, last + (l[k] - 2))] else []) (by omega) (by omega) (by rw [List.length_append]; split <;> simp <;> omega)
   refine (loopO_next hstep).trans (ih.trans ?_)
   rw [Bool.true_and]
   have eL : cosL last (l[k] :: l.drop (k + 1)) = cosL (last + (l[k] - 2)) (l.drop (k + 1)) := by
    show cosL (last + l[k] - 2) _ = _
    rw [show last + l[k] - 2 = last + (l[k] - 2) by omega]
   have eD : cosD last (l[k] :: l.drop (k + 1)) = (if k + 1 < l.length then [(0, last + (l[k] - 2))] else []) ++ cosD (last + (l[k] - 2)) (l.drop (k + 1)) := by
    by_cases hk1 : k + 1 < l.length
    ·rw [if_pos hk1, List.drop_eq_getElem_cons hk1]
     show (0, last + l[k] - 2) :: cosD (last + l[k] - 2) _ = _
     rw [show last + l[k] - 2 = last + (l[k] - 2) by omega]
     rfl
    ·rw [if_neg hk1, List.drop_of_length_le (by omega)]
     rfl
   rw [eL, eD, List.append_assoc]
theorem F49_eq (l : List Int) (hl : l.length ≤ 1000) : F49 l = some (coR2 l) := by
 unfold coR2
 rw [F49, F49_t, T.run_sub, F77_eq, Option.bind_some, T.run_test]
 by_cases h : 1 ≤ l.length ∧ l.length ≤ 10
 ·have hL := F49_loop l h.2 l.length 0 1 [] (by omega) (by omega) (by simp)
  rw [List.drop_zero, List.nil_append] at hL
  have hL' : F49_L5 ((l, ((), ((1 : Int), (l, ((l.length : Int), (0 : Int)))))), ([] : List Dg)) = _ := hL
  rw [if_neg (by rw [inB_iff.2 (by omega)]; simp), T.run_test, if_pos (by rfl), T.run_sub, hL', Option.bind_some, decide_eq_true h, Bool.true_and, T.run_test]
  cases ha : l.all (inB 3 12) with
  | false => rfl
  | true =>
   have hall := List.all_eq_true.1 ha
   have hle : cosL 1 l ≤ 1000 := by
    rw [cosL_eq]
    have : ∀ l : List Int, (∀ x ∈ l, inB 3 12 x = true) → l.sum ≤ 12 * (l.length : Int) := by
     intro l
     induction l with
     | nil => intro _; simp
     | cons a t ih => intro h; have := ih fun x hx => h x (by simp [hx]); have := inB_iff.1 (h a (by simp)); rw [List.length_cons, List.sum_cons]; omega
    have := this l hall
    omega
   have hge := cosL_le l (fun a ha => by have := inB_iff.1 (hall a ha); omega) 1
   have w : w64 (cosL 1 l + 1) = cosL 1 l + 1 := w64_id (by omega) (by omega)
   rw [if_neg (by simp [Sum.isLeft]), T.run_sub]
   simp only [if_true, Sum.getRight?, Option.bind_some]
   rw [T.run_test]
   by_cases hc : cosL 1 l ≤ 11
   ·rw [if_neg (by rw [decide_eq_true_eq]; omega), T.run_test, if_pos (by simp), T.run_ret, w, decide_eq_true hc, if_pos (by rfl)]
   ·rw [if_pos (decide_eq_true (by omega)), T.run_test, if_pos (by rfl), T.run_ret, decide_eq_false hc, if_neg (by simp)]
 ·rw [if_pos (by
   cases hi : inB 1 10 (l.length : Int) with
   | true => have := inB_iff.1 hi; omega
   | false => rfl), T.run_test, if_pos (by rfl), T.run_ret, decide_eq_false h]
  rfl
def F50_sh : FSh := ⟨[(.one (.sl (.int .i64) false false))], []⟩
def F50_L6_sh : LSh := ⟨(fun ex => match ex with | .norm => [(0, none), (5, none), (6, none), (18, none), (19, none), (20, none)] | .exit i => if i = 0 then [(5, none), (6, none)] else [] | .ret => [(2, none), (3, none), (4, none)]), [(0, (.one (.sl (.int .i64) false false))), (5, (.one (.rw 0 0))), (6, (.one (.si .i64))), (18, (.one (.sl (.int .i64) false false))), (19, (.one (.si .i64))), (20, (.one (.si .i64)))], [(.row 0 (.pair (.int .i64) (.int .i64)))], [⟨(.exit 0), [(5, (.one (.rw 0 0))), (6, (.one (.si .i64)))], [(.row 0 (.pair (.int .i64) (.int .i64)))]⟩], [], []⟩
noncomputable def F50_L6_step : ((List (Int) × Unit × Int × List (Int) × Int × Int) × List ((Int × Int))) → T (((List (Int) × Unit × Int × List (Int) × Int × Int) × List ((Int × Int))) ⊕ ((Unit × Int) × List ((Int × Int)))) := fun ((sizes, (), last, t18, t19, t20), ds) =>
 (.test (decide (t20 < t19))
 (.test (decide ((0 ≤ t20) ∧ (t20 < (t18.length : Int))))
 (.sub (t18[(Int.toNat t20)]?) fun z0 =>
 (.test (decide ((w64 (t20 + 1)) < (sizes.length : Int)))
 (.test (decide (1 ≤ 1))
 (.test (decide ((0 + ds.length) ≤ ds.length))
 (.test (decide ((2 * ((ds.length + 1) * 17)) ≤ 140737488355328))
 (.test (decide ((0 = 0) ∧ ((ds.length + 1) = (List.length ((win ds 0 ds.length) ++ [((0 : Int), (w64 (last + (w64 (z0 - 2)))))])))))
 (.ret (Sum.inl ((sizes, ((), ((w64 (last + (w64 (z0 - 2)))), (t18, (t19, (w64 (t20 + 1))))))), ((win ds 0 ds.length) ++ [((0 : Int), (w64 (last + (w64 (z0 - 2)))))]))))
 .fail)
 .fail)
 .fail)
 .fail)
 (.test (decide ((0 = 0) ∧ (ds.length = ds.length)))
 (.ret (Sum.inl ((sizes, ((), ((w64 (last + (w64 (z0 - 2)))), (t18, (t19, (w64 (t20 + 1))))))), ds)))
 .fail)))
 .fail)
 (.test (decide ((0 = 0) ∧ (ds.length = ds.length)))
 (.ret (Sum.inr (((), last), ds)))
 .fail))
noncomputable def F50_L6 (v) := loopO (fun v => (F50_L6_step v).run) v
def F50_fo : List FO := [⟨[(.one (.si .i64)), (.one (.rw 0 0)), (.one .sb)], [(.row 0 (.pair (.int .i64) (.int .i64)))]⟩]
noncomputable def F50_t : List (Int) → T ((Int × Unit × Bool) × List ((Int × Int))) := fun sizes =>
 (.sub (F112 ((sizes.length : Int), ((1 : Int), (10 : Int)))) fun z0 =>
 (.test (! z0)
 (.test true
 (.ret (((0 : Int), ((), false)), ([] : List (Int × Int))))
 .fail)
 (.sub (F101 (sizes, ((3 : Int), (12 : Int)))) fun z1 =>
 (.test (! z1)
 (.test true
 (.ret (((0 : Int), ((), false)), ([] : List (Int × Int))))
 .fail)
 (.test true
 (.sub (F50_L6 ((sizes, ((), ((1 : Int), (sizes, ((sizes.length : Int), (0 : Int)))))), ([] : List (Int × Int)))) fun z2 =>
 (.test (decide (z2.1.2 ≥ 12))
 (.test true
 (.ret (((0 : Int), ((), false)), ([] : List (Int × Int))))
 .fail)
 (.test (decide ((0 = 0) ∧ (z2.2.length = z2.2.length)))
 (.ret (((w64 (z2.1.2 + 1)), ((), true)), z2.2))
 .fail)))
 .fail)))))
noncomputable def F50 (v) := (F50_t v).run
noncomputable def F50_E : TEnv := ((E0.add1 n_F112 F112_sh F112_fo F112).add1 n_F101 F101_sh F101_fo F101)
theorem F50_Eok : (F50_E).OK := ((E0ok.add1 F112_ok).add1 F101_ok)
noncomputable def F50_told : Nat → Option SealT := fun id => if id = 6 then some (LSh.told F50_L6_sh 0 (F50_L6_step)) else none
theorem F50_L6_ok : ToldOK Tryz.prog 0 (loopAt (bodyOf fn_F50) [0]) (LSh.told F50_L6_sh 0 (F50_L6_step)) :=
 loop_ok (E := F50_E) (F50_Eok) (told := F50_told) (l := F50_L6_sh) (step := F50_L6_step) (loopsOK_of (ls := []) (by kernel_rfl) trivial) (by kernel_rfl) (fun v => by kernel_rfl)
theorem F50_ok : FOK Tryz.prog n_F50 F50_sh F50_fo F50 :=
 fn_ok (E := F50_E) (F50_Eok) (told := F50_told) (fl := []) (c := bodyOf fn_F50) (s := F50_sh) (l := F50_fo) (tree := F50_t) fnat_F50 (by kernel_rfl) (by kernel_rfl) (by kernel_rfl) (loopsOK_of (ls := [loopAt (bodyOf fn_F50) [0]]) (by kernel_rfl) ⟨.inr ⟨_, by kernel_rfl, F50_L6_ok⟩, trivial⟩) (fun v => by kernel_rfl)
theorem F50_loop (l : List Int) (hl : l.length ≤ 10) (ha : ∀ x ∈ l, 3 ≤ x ∧ x ≤ 12) : ∀ (m k : Nat) (last : Int) (out : List Dg), k + m = l.length → 0 ≤ last ∧ last ≤ 1 + 12 * (k : Int) → out.length ≤ k →
  F50_L6 ((l, ((), (last, (l, ((l.length : Int), (k : Int)))))), out) = some (((), cosL last (l.drop k)), out ++ cosD last (l.drop k))
 | 0, k, last, out, hk, hb, ho => by
  rw [List.drop_of_length_le (by omega)]
  refine loopO_done ?_
  rw [F50_L6_step, T.run_test, if_neg (by rw [decide_eq_true_eq]; omega), T.run_test, if_pos (by simp), T.run_ret]
  simp [cosL, cosD]
 | m + 1, k, last, out, hk, hb, ho => by
  have hlt : k < l.length := by omega
  have w1 : w64 ((k : Int) + 1) = ((k + 1 : Nat) : Int) := by rw [w64_id (by omega) (by omega)]; omega
  have hi' := ha _ (List.getElem_mem hlt)
  have w3 : w64 (l[k] - 2) = l[k] - 2 := w64_id (by omega) (by omega)
  have w4 : w64 (last + (l[k] - 2)) = last + (l[k] - 2) := w64_id (by omega) (by omega)
  have hstep : (F50_L6_step ((l, ((), (last, (l, ((l.length : Int), (k : Int)))))), out)).run = some (.inl ((l, ((), (last + (l[k] - 2), (l, ((l.length : Int), ((k + 1 : Nat) : Int)))))), out ++ if k + 1 < l.length then [(0, last + (l[k] - 2))] else [])) := by
   rw [F50_L6_step, T.run_test, if_pos (decide_eq_true (by omega)), T.run_test, if_pos (decide_eq_true (by omega)), T.run_sub, Int.toNat_natCast, List.getElem?_eq_getElem hlt, Option.bind_some, T.run_test, w3, w4, w1]
   by_cases hk1 : k + 1 < l.length
   ·rw [if_pos (decide_eq_true (by omega)), T.run_test, if_pos (by rfl), T.run_test, if_pos (by simp), T.run_test, if_pos (decide_eq_true (by omega)), T.run_test, if_pos (by simp [win_all]), T.run_ret, if_pos hk1, win_all]
   ·rw [if_neg (by rw [decide_eq_true_eq]; omega), T.run_test, if_pos (by simp), T.run_ret, if_neg hk1, List.append_nil]
  have ih := F50_loop l hl ha m (k + 1) (last + (l[k] - 2)) (out ++ if k + 1 < l.length then [(0, last + (l[k] - 2))] else []) (by omega) (by omega) (by rw [List.length_append]; split <;> simp <;> omega)
  refine (loopO_next hstep).trans (ih.trans ?_)
  rw [List.drop_eq_getElem_cons hlt]
  have eL : cosL last (l[k] :: l.drop (k + 1)) = cosL (last + (l[k] - 2)) (l.drop (k + 1)) := by
   show cosL (last + l[k] - 2) _ = _
   rw [show last + l[k] - 2 = last + (l[k] - 2) by omega]
  have eD : cosD last (l[k] :: l.drop (k + 1)) = (if k + 1 < l.length then [(0, last + (l[k] - 2))] else []) ++ cosD (last + (l[k] - 2)) (l.drop (k + 1)) := by
   by_cases hk1 : k + 1 < l.length
   ·rw [if_pos hk1, List.drop_eq_getElem_cons hk1]
    show (0, last + l[k] - 2) :: cosD (last + l[k] - 2) _ = _
    rw [show last + l[k] - 2 = last + (l[k] - 2) by omega]
    rfl
   ·rw [if_neg hk1, List.drop_of_length_le (by omega)]
    rfl
  rw [eL, eD, List.append_assoc]
theorem F50_eq (l : List Int) (hl : l.length ≤ 1000) : F50 l = some (coR2 l) := by
 unfold coR2
 rw [F50, F50_t, T.run_sub, F112_eq, Option.bind_some, T.run_test]
 by_cases h : 1 ≤ l.length ∧ l.length ≤ 10
 ·rw [if_neg (by rw [inB_iff.2 (by omega)]; simp), T.run_sub, F101_eq l 3 12 (by omega), Option.bind_some, T.run_test, decide_eq_true h, Bool.true_and]
  cases ha : l.all (inB 3 12) with
  | false => rw [if_pos (by rfl), T.run_test, if_pos (by rfl), T.run_ret]; rfl
  | true =>
   have hall : ∀ x ∈ l, 3 ≤ x ∧ x ≤ 12 := fun x hx => inB_iff.1 (List.all_eq_true.1 ha x hx)
   have hL := F50_loop l h.2 hall l.length 0 1 [] (by omega) (by omega) (by simp)
   rw [List.drop_zero, List.nil_append] at hL
   have hL' : F50_L6 ((l, ((), ((1 : Int), (l, ((l.length : Int), (0 : Int)))))), ([] : List Dg)) = _ := hL
   have hle : cosL 1 l ≤ 1000 := by
    rw [cosL_eq]
    have : ∀ l : List Int, (∀ x ∈ l, 3 ≤ x ∧ x ≤ 12) → l.sum ≤ 12 * (l.length : Int) := by
     intro l
     induction l with
     | nil => intro _; simp
     | cons a t ih => intro h; have := ih fun x hx => h x (by simp [hx]); have := h a (by simp); rw [List.length_cons, List.sum_cons]; omega
    have := this l hall
    omega
   have hge := cosL_le l (fun a ha => (hall a ha).1) 1
   have w : w64 (cosL 1 l + 1) = cosL 1 l + 1 := w64_id (by omega) (by omega)
   rw [if_neg (by simp), T.run_test, if_pos (by rfl), T.run_sub, hL', Option.bind_some, T.run_test]
   by_cases hc : cosL 1 l ≤ 11
   ·rw [if_neg (by rw [decide_eq_true_eq]; dsimp only; omega), T.run_test, if_pos (by simp), T.run_ret, decide_eq_true hc, if_pos (by rfl)]
    dsimp only
    rw [w]
   ·rw [if_pos (decide_eq_true (by dsimp only; omega)), T.run_test, if_pos (by rfl), T.run_ret, decide_eq_false hc, if_neg (by simp)]
 ·rw [if_pos (by
   cases hi : inB 1 10 (l.length : Int) with
   | true => have := inB_iff.1 hi; omega
   | false => rfl), T.run_test, if_pos (by rfl), T.run_ret, decide_eq_false h]
  rfl
def F51_sh : FSh := ⟨[(.one (.si .i64)), (.one (.sl (.pair (.int .i64) (.int .i64)) false false))], []⟩
def F51_fo : List FO := [⟨[(.one (.rw 0 0)), (.one .sb)], [(.row 0 (.int .i64))]⟩]
noncomputable def F51_t : (Int × List ((Int × Int))) → T ((Unit × Bool) × List (Int)) := fun (n, ds) =>
 (.sub (F98 (n, ds)) fun z0 =>
 (.test (! z0)
 (.test true
 (.ret (((), false), ([] : List (Int))))
 .fail)
 (.sub (F92 (n, ds)) fun z1 =>
 (.test (decide ((0 = 0) ∧ (z1.2.length = z1.2.length)))
 (.ret (((), true), z1.2))
 .fail))))
noncomputable def F51 (v) := (F51_t v).run
noncomputable def F51_E : TEnv := ((E0.add1 n_F98 F98_sh F98_fo F98).add1 n_F92 F92_sh F92_fo F92)
theorem F51_Eok : (F51_E).OK := ((E0ok.add1 F98_ok).add1 F92_ok)
noncomputable def F51_told : Nat → Option SealT := fun id => none
theorem F51_ok : FOK Tryz.prog n_F51 F51_sh F51_fo F51 :=
 fn_ok (E := F51_E) (F51_Eok) (told := F51_told) (fl := []) (c := bodyOf fn_F51) (s := F51_sh) (l := F51_fo) (tree := F51_t) fnat_F51 (by kernel_rfl) (by kernel_rfl) (by kernel_rfl) (loopsOK_of (ls := []) (by kernel_rfl) trivial) (fun v => by kernel_rfl)
theorem F51_eq (n : Int) (ds : List Dg) (hl : ds.length < 4611686018427387904) : F51 (n, ds) = some (if isCut n ds then (((), true), sortI (szL n.toNat ds)) else (((), false), [])) := by
 rw [F51, F51_t, T.run_sub, F98_eq n ds hl, Option.bind_some, T.run_test]
 cases h : isCut n ds with
 | false => rfl
 | true =>
  obtain ⟨N, rfl, h3, hN, hlen, hc⟩ := isCut_cut h
  rw [if_neg (by simp), T.run_sub, F92_eq h3 hN hlen hc, Option.bind_some, T.run_test, if_pos (by simp), T.run_ret, Int.toNat_natCast]
  rfl
def F115_sh : FSh := ⟨[(.one (.sl (.int .i64) false false))], []⟩
def F115_L3_sh : LSh := ⟨(fun ex => match ex with | .norm => [(3, none), (6, none), (7, none), (8, none)] | .exit i => if i = 0 then [(3, none)] else [] | .ret => [(2, none)]), [(3, (.one (.si .i64))), (6, (.one (.sl (.int .i64) false false))), (7, (.one (.si .i64))), (8, (.one (.si .i64)))], [], [⟨(.exit 0), [(3, (.one (.si .i64)))], []⟩], [], []⟩
noncomputable def F115_L3_step : (Int × List (Int) × Int × Int) → T ((Int × List (Int) × Int × Int) ⊕ Int) := fun (n, t6, t7, t8) =>
 (.test (decide (t8 < t7))
 (.test (decide ((0 ≤ t8) ∧ (t8 < (t6.length : Int))))
 (.sub (t6[(Int.toNat t8)]?) fun z0 =>
 (.ret (Sum.inl ((w64 (n + z0)), (t6, (t7, (w64 (t8 + 1))))))))
 .fail)
 (.ret (Sum.inr n)))
noncomputable def F115_L3 (v) := loopO (fun v => (F115_L3_step v).run) v
def F115_fo : List FO := [⟨[(.one (.si .i64))], []⟩]
noncomputable def F115_t : List (Int) → T Int := fun a =>
 (.sub (F115_L3 ((0 : Int), (a, ((a.length : Int), (0 : Int))))) fun z0 =>
 (.ret z0))
noncomputable def F115 (v) := (F115_t v).run
noncomputable def F115_E : TEnv := E0
theorem F115_Eok : (F115_E).OK := E0ok
noncomputable def F115_told : Nat → Option SealT := fun id => if id = 3 then some (LSh.told F115_L3_sh 0 (F115_L3_step)) else none
theorem F115_L3_ok : ToldOK Tryz.prog 0 (loopAt (bodyOf fn_F115) [0]) (LSh.told F115_L3_sh 0 (F115_L3_step)) :=
 loop_ok (E := F115_E) (F115_Eok) (told := F115_told) (l := F115_L3_sh) (step := F115_L3_step) (loopsOK_of (ls := []) (by kernel_rfl) trivial) (by kernel_rfl) (fun v => by kernel_rfl)
theorem F115_ok : FOK Tryz.prog n_F115 F115_sh F115_fo F115 :=
 fn_ok (E := F115_E) (F115_Eok) (told := F115_told) (fl := []) (c := bodyOf fn_F115) (s := F115_sh) (l := F115_fo) (tree := F115_t) fnat_F115 (by kernel_rfl) (by kernel_rfl) (by kernel_rfl) (loopsOK_of (ls := [loopAt (bodyOf fn_F115) [0]]) (by kernel_rfl) ⟨.inr ⟨_, by kernel_rfl, F115_L3_ok⟩, trivial⟩) (fun v => by kernel_rfl)
theorem F115_eq (a : List Int) (hl : a.length ≤ 1000) (hb : ∀ z ∈ a, 0 ≤ z ∧ z ≤ 1000) : F115 a = some a.sum := by
 have key : ∀ (m k : Nat) (s : Int), k + m = a.length → 0 ≤ s ∧ s ≤ 1000 * (k : Int) → F115_L3 (s, (a, ((a.length : Int), (k : Int)))) = some (s + (a.drop k).sum) := by
  intro m
  induction m with
  | zero =>
   intro k s hk hs
   rw [List.drop_of_length_le (by omega), List.sum_nil, Int.add_zero]
   refine loopO_done ?_
   rw [F115_L3_step, T.run_test, if_neg (by rw [decide_eq_true_eq]; omega), T.run_ret]
  | succ m ih =>
   intro k s hk hs
   have hlt : k < a.length := by omega
   have w1 : w64 ((k : Int) + 1) = ((k + 1 : Nat) : Int) := by rw [w64_id (by omega) (by omega)]; omega
   have hz := hb a[k] (List.getElem_mem hlt)
   have w2 : w64 (s + a[k]) = s + a[k] := w64_id (by omega) (by omega)
   rw [List.drop_eq_getElem_cons hlt, List.sum_cons, ← Int.add_assoc, ← ih (k + 1) (s + a[k]) (by omega) (by omega)]
   refine loopO_next ?_
   rw [F115_L3_step, T.run_test, if_pos (decide_eq_true (by omega)), T.run_test, if_pos (decide_eq_true (by omega)), T.run_sub, Int.toNat_natCast, List.getElem?_eq_getElem hlt, Option.bind_some, T.run_ret, w1, w2]
 have h := key a.length 0 0 (by omega) (by omega)
 have h' : F115_L3 ((0 : Int), (a, ((a.length : Int), (0 : Int)))) = _ := h
 rw [F115, F115_t, T.run_sub, h', Option.bind_some, T.run_ret, List.drop_zero, Int.zero_add]
def L0_sh : FSh := ⟨[(.one (.sl (.int .u8) false true)), (.one (.sl (.int .u8) false true))], []⟩
def L0_R7_sh : LSh := ⟨(fun ex => match ex with | .norm => [(1, none), (5, none), (6, none), (7, none), (8, none), (11, none), (112, none)] | .exit i => [] | .ret => [(4, none)]), [(1, (.one (.sl (.int .u8) false true))), (5, (.one (.si .i64))), (6, (.one (.si .i64))), (7, (.one (.rw 0 0))), (8, (.one .sb)), (9, (.one (.rw 1 0))), (10, (.one .sb)), (11, (.one (.si .i64))), (12, (.one .sb))], [(.row 0 (.list true (.pair (.int .i64) (.int .i64)))), (.row 0 (.list true (.pair (.int .i64) (.int .i64))))], [⟨.norm, [(1, (.one (.sl (.int .u8) false true))), (5, (.one (.si .i64))), (6, (.one (.si .i64))), (7, (.one (.rw 0 0))), (8, (.one .sb)), (11, (.one (.si .i64))), (112, (.one .sb))], [(.row 0 (.list true (.pair (.int .i64) (.int .i64))))]⟩], [], []⟩
noncomputable def L0_R7_step : ((List (Int) × Int × Int × Unit × Bool × Unit × Bool × Int × Bool) × (List (List ((Int × Int))) × List (List ((Int × Int))))) → T ((List (Int) × Int × Int × Unit × Bool × Int × Bool) × List (List ((Int × Int)))) := fun ((more, n, k, (), ok, (), fine, count, one), (all, right)) =>
 (.test (! (ok == fine))
 (.test (decide ((0 = 0) ∧ (all.length = all.length)))
 (.ret ((more, (n, (k, ((), (ok, (count, true)))))), all))
 .fail)
 (.test (decide ((0 + all.length) ≤ all.length))
 (.test (decide ((0 + right.length) ≤ right.length))
 (.sub (F83 ((win all 0 all.length), (win right 0 right.length))) fun z0 =>
 (.test (! z0)
 (.test (decide ((0 = 0) ∧ (all.length = all.length)))
 (.ret ((more, (n, (k, ((), (ok, (count, true)))))), all))
 .fail)
 (.test ok
 (.test (decide ((0 = 0) ∧ (all.length = all.length)))
 (.ret ((more, (n, (k, ((), (ok, (count, (! one))))))), all))
 .fail)
 (.test (decide ((0 = 0) ∧ (all.length = all.length)))
 (.ret ((more, (n, (k, ((), (ok, (count, false)))))), all))
 .fail))))
 .fail)
 .fail))
noncomputable def L0_R7 (v) := (L0_R7_step v).run
def L0_R14_sh : LSh := ⟨(fun ex => match ex with | .norm => [(1, none), (5, none), (6, none), (7, none), (11, none), (13, none), (15, none), (114, none), (115, none), (116, none), (144, none)] | .exit i => if i = 1 then [(1, none), (5, none), (6, none), (7, none), (11, none), (13, none), (114, none), (115, none), (116, none)] else if i = 0 then [(1, none), (5, none), (6, none), (7, none), (11, none), (13, none)] else [] | .ret => [(4, none)]), [(1, (.one (.sl (.int .u8) false true))), (5, (.one (.si .i64))), (6, (.one (.si .i64))), (7, (.one (.rw 0 0))), (11, (.one (.si .i64))), (13, (.one (.si .i64))), (14, (.one (.si .i64))), (15, (.one (.sl (.pair (.int .i64) (.int .i64)) false true))), (114, (.one (.rw 0 0))), (115, (.one (.si .i64))), (116, (.one (.si .i64)))], [(.row 0 (.list true (.pair (.int .i64) (.int .i64))))], [⟨.norm, [(1, (.one (.sl (.int .u8) false true))), (5, (.one (.si .i64))), (6, (.one (.si .i64))), (7, (.one (.rw 0 0))), (11, (.one (.si .i64))), (13, (.one (.si .i64))), (15, (.one (.sl (.pair (.int .i64) (.int .i64)) false true))), (114, (.one (.rw 0 0))), (115, (.one (.si .i64))), (116, (.one (.si .i64))), (144, (.one .sb))], [(.row 0 (.list true (.pair (.int .i64) (.int .i64))))]⟩], [], []⟩
noncomputable def L0_R14_step : ((List (Int) × Int × Int × Unit × Int × Int × Int × List ((Int × Int)) × Unit × Int × Int) × List (List ((Int × Int)))) → T ((List (Int) × Int × Int × Unit × Int × Int × List ((Int × Int)) × Unit × Int × Int × Bool) × List (List ((Int × Int)))) := fun ((more, n, k, (), count, triangles, i, ds, (), t115, t116), all) =>
 (.sub (F98 (n, ds)) fun z0 =>
 (.test (! z0)
 (.test (decide ((0 = 0) ∧ (all.length = all.length)))
 (.test (decide ((0 = 0) ∧ (all.length = all.length)))
 (.ret ((more, (n, (k, ((), (count, (triangles, (ds, ((), (t115, (t116, true)))))))))), all))
 .fail)
 .fail)
 (.test ((ds.length : Int) != k)
 (.test (decide ((0 = 0) ∧ (all.length = all.length)))
 (.test (decide ((0 = 0) ∧ (all.length = all.length)))
 (.ret ((more, (n, (k, ((), (count, (triangles, (ds, ((), (t115, (t116, true)))))))))), all))
 .fail)
 .fail)
 (.test (decide (i > 0))
 (.test (decide ((0 ≤ (w64 (i - 1))) ∧ ((w64 (i - 1)) < (all.length : Int))))
 (.sub (all[(0 + (Int.toNat (w64 (i - 1))))]?) fun z1 =>
 (.sub (F99 (z1, ds)) fun z2 =>
 (.test (decide ((0 = 0) ∧ (all.length = all.length)))
 (.test (decide ((0 = 0) ∧ (all.length = all.length)))
 (.ret ((more, (n, (k, ((), (count, (triangles, (ds, ((), (t115, (t116, (! z2))))))))))), all))
 .fail)
 .fail)))
 .fail)
 (.test (decide ((0 = 0) ∧ (all.length = all.length)))
 (.test (decide ((0 = 0) ∧ (all.length = all.length)))
 (.ret ((more, (n, (k, ((), (count, (triangles, (ds, ((), (t115, (t116, false)))))))))), all))
 .fail)
 .fail)))))
noncomputable def L0_R14 (v) := (L0_R14_step v).run
def L0_L12_sh : LSh := ⟨(fun ex => match ex with | .norm => [(1, none), (5, none), (6, none), (7, none), (11, none), (13, none), (114, none), (115, none), (116, none)] | .exit i => if i = 0 then [(1, none), (5, none), (6, none), (7, none), (11, none), (13, none)] else [] | .ret => [(4, none)]), [(1, (.one (.sl (.int .u8) false true))), (5, (.one (.si .i64))), (6, (.one (.si .i64))), (7, (.one (.rw 0 0))), (11, (.one (.si .i64))), (13, (.one (.si .i64))), (114, (.one (.rw 0 0))), (115, (.one (.si .i64))), (116, (.one (.si .i64)))], [(.row 0 (.list true (.pair (.int .i64) (.int .i64))))], [⟨.ret, [(4, (.one .sb))], []⟩, ⟨(.exit 0), [(1, (.one (.sl (.int .u8) false true))), (5, (.one (.si .i64))), (6, (.one (.si .i64))), (7, (.one (.rw 0 0))), (11, (.one (.si .i64))), (13, (.one (.si .i64)))], [(.row 0 (.list true (.pair (.int .i64) (.int .i64))))]⟩], [], []⟩
noncomputable def L0_L12_step : ((List (Int) × Int × Int × Unit × Int × Int × Unit × Int × Int) × List (List ((Int × Int)))) → T (((List (Int) × Int × Int × Unit × Int × Int × Unit × Int × Int) × List (List ((Int × Int)))) ⊕ (Bool ⊕ ((List (Int) × Int × Int × Unit × Int × Int) × List (List ((Int × Int)))))) := fun ((more, n, k, (), count, triangles, (), t115, t116), all) =>
 (.test (decide (t116 < t115))
 (.test (decide ((0 ≤ t116) ∧ (t116 < (all.length : Int))))
 (.sub (all[(0 + (Int.toNat t116))]?) fun z0 =>
 (.test (decide ((0 = 0) ∧ (all.length = all.length)))
 (.test (decide ((0 = 0) ∧ (all.length = all.length)))
 (.sub (L0_R14 ((more, (n, (k, ((), (count, (triangles, (t116, (z0, ((), (t115, t116)))))))))), all)) fun z1 =>
 (.test z1.1.2.2.2.2.2.2.2.2.2.2
 (.ret (Sum.inr (Sum.inl false)))
 (.sub (F47 (z1.1.2.1, (z1.1.2.2.2.2.2.2.1, (4 : Int)))) fun z2 =>
 (.test (! z2.2)
 (.ret (Sum.inr (Sum.inl false)))
 (.test z2.1
 (.test (decide ((0 = 0) ∧ (z1.2.length = z1.2.length)))
 (.test (decide ((0 = 0) ∧ (z1.2.length = z1.2.length)))
 (.ret (Sum.inl ((z1.1.1, (z1.1.2.1, (z1.1.2.2.1, ((), (z1.1.2.2.2.2.1, ((w64 (z1.1.2.2.2.2.2.1 + 1)), ((), (z1.1.2.2.2.2.2.2.2.2.1, (w64 (z1.1.2.2.2.2.2.2.2.2.2.1 + 1)))))))))), z1.2)))
 .fail)
 .fail)
 (.test (decide ((0 = 0) ∧ (z1.2.length = z1.2.length)))
 (.test (decide ((0 = 0) ∧ (z1.2.length = z1.2.length)))
 (.ret (Sum.inl ((z1.1.1, (z1.1.2.1, (z1.1.2.2.1, ((), (z1.1.2.2.2.2.1, (z1.1.2.2.2.2.2.1, ((), (z1.1.2.2.2.2.2.2.2.2.1, (w64 (z1.1.2.2.2.2.2.2.2.2.2.1 + 1)))))))))), z1.2)))
 .fail)
 .fail))))))
 .fail)
 .fail))
 .fail)
 (.test (decide ((0 = 0) ∧ (all.length = all.length)))
 (.ret (Sum.inr (Sum.inr ((more, (n, (k, ((), (count, triangles))))), all))))
 .fail))
noncomputable def L0_L12 (v) := loopO (fun v => (L0_L12_step v).run) v
def L0_R25_sh : LSh := ⟨(fun ex => match ex with | .norm => [(1, none), (190, none)] | .exit i => [] | .ret => [(4, none)]), [(1, (.one (.sl (.int .u8) false true))), (5, (.one (.si .i64))), (6, (.one (.si .i64))), (13, (.one (.si .i64))), (18, (.one (.si .i64))), (19, (.one .sb))], [], [⟨.norm, [(1, (.one (.sl (.int .u8) false true))), (190, (.one .sb))], []⟩], [], []⟩
noncomputable def L0_R25_step : (List (Int) × Int × Int × Int × Int × Bool) → T (List (Int) × Bool) := fun (more, n, k, triangles, equal, two) =>
 (.test (! two)
 (.ret (more, true))
 (.test (n == (w64 ((w64 (2 * k)) + 4)))
 (.test (triangles != equal)
 (.ret (more, true))
 (.test (n != (w64 ((w64 (2 * k)) + 4)))
 (.ret (more, (triangles != 0)))
 (.ret (more, false))))
 (.test (n != (w64 ((w64 (2 * k)) + 4)))
 (.ret (more, (triangles != 0)))
 (.ret (more, false)))))
noncomputable def L0_R25 (v) := (L0_R25_step v).run
def L0_C10_sh : LSh := ⟨(fun ex => match ex with | .norm => [(1, none)] | .exit i => [] | .ret => [(4, none)]), [(1, (.one (.sl (.int .u8) false true))), (5, (.one (.si .i64))), (6, (.one (.si .i64))), (7, (.one (.rw 0 0))), (8, (.one .sb)), (11, (.one (.si .i64)))], [(.row 0 (.list true (.pair (.int .i64) (.int .i64))))], [⟨.ret, [(4, (.one .sb))], []⟩, ⟨.norm, [(1, (.one (.sl (.int .u8) false true)))], []⟩], [], []⟩
noncomputable def L0_C10_step : ((List (Int) × Int × Int × Unit × Bool × Int) × List (List ((Int × Int)))) → T (Bool ⊕ List (Int)) := fun ((more, n, k, (), ok, count), all) =>
 (.test ok
 (.test (decide ((0 = 0) ∧ (all.length = all.length)))
 (.test (decide ((0 = 0) ∧ (all.length = all.length)))
 (.sub (L0_L12 ((more, (n, (k, ((), (count, ((0 : Int), ((), ((all.length : Int), (0 : Int))))))))), all)) fun z0 =>
 (.test (Sum.isLeft z0)
 (.sub (Sum.getLeft? z0) fun z1 =>
 (.ret (Sum.inl z1)))
 (.sub (Sum.getRight? z0) fun z2 =>
 (.test ((z2.2.length : Int) != z2.1.2.2.2.2.1)
 (.ret (Sum.inl false))
 (.sub (F23 (z2.1.2.1, (4 : Int))) fun z3 =>
 (.sub (L0_R25 (z2.1.1, (z2.1.2.1, (z2.1.2.2.1, (z2.1.2.2.2.2.2, z3))))) fun z4 =>
 (.test z4.2
 (.ret (Sum.inl false))
 (.ret (Sum.inr z4.1)))))))))
 .fail)
 .fail)
 (.ret (Sum.inr more)))
noncomputable def L0_C10 (v) := (L0_C10_step v).run
def L0_R33_sh : LSh := ⟨(fun ex => match ex with | .norm => [(1, none), (26, none), (27, none), (28, none), (237, none)] | .exit i => [] | .ret => [(4, none)]), [(1, (.one (.sl (.int .u8) false true))), (22, (.one (.si .i64))), (23, (.one .sb)), (24, (.one (.si .i64))), (25, (.one .sb)), (26, (.one (.si .i64))), (27, (.one (.si .i64))), (28, (.one .sb)), (29, (.one (.si .i64))), (30, (.one .sb))], [], [⟨.norm, [(1, (.one (.sl (.int .u8) false true))), (26, (.one (.si .i64))), (27, (.one (.si .i64))), (28, (.one .sb)), (237, (.one .sb))], []⟩], [], []⟩
noncomputable def L0_R33_step : (List (Int) × Int × Bool × Int × Bool × Int × Int × Bool × Int × Bool) → T (List (Int) × Int × Int × Bool × Bool) := fun (more, cuts, two, want, three, s, sum, four, model, five) =>
 (.test (! (two == three))
 (.ret (more, (s, (sum, (four, true)))))
 (.test (cuts != want)
 (.ret (more, (s, (sum, (four, true)))))
 (.test (! (four == five))
 (.ret (more, (s, (sum, (four, true)))))
 (.ret (more, (s, (sum, (four, (sum != model)))))))))
noncomputable def L0_R33 (v) := (L0_R33_step v).run
def L0_L38_sh : LSh := ⟨(fun ex => match ex with | .norm => [(1, none), (26, none), (27, none), (31, none), (32, none)] | .exit i => if i = 2 then [(1, none), (26, none), (27, none), (31, none)] else [] | .ret => [(4, none)]), [(1, (.one (.sl (.int .u8) false true))), (26, (.one (.si .i64))), (27, (.one (.si .i64))), (31, (.one (.si .i64))), (32, (.one (.si .i64)))], [], [⟨.ret, [(4, (.one .sb))], []⟩, ⟨(.exit 2), [(1, (.one (.sl (.int .u8) false true))), (26, (.one (.si .i64))), (27, (.one (.si .i64))), (31, (.one (.si .i64)))], []⟩], [], []⟩
noncomputable def L0_L38_step : (List (Int) × Int × Int × Int × Int) → T ((List (Int) × Int × Int × Int × Int) ⊕ (Bool ⊕ (List (Int) × Int × Int × Int))) := fun (more, s, sum, total, i) =>
 (.test (decide (i ≤ (w64 (s - 3))))
 (.sub (F58 (s, i)) fun z0 =>
 (.test (! z0.2)
 (.ret (Sum.inr (Sum.inl false)))
 (.ret (Sum.inl (more, (s, (sum, ((w64 (total + z0.1)), (w64 (i + 1))))))))))
 (.ret (Sum.inr (Sum.inr (more, (s, (sum, total)))))))
noncomputable def L0_L38 (v) := loopO (fun v => (L0_L38_step v).run) v
def L0_R45_sh : LSh := ⟨(fun ex => match ex with | .norm => [(1, none), (275, none)] | .exit i => [] | .ret => [(4, none)]), [(1, (.one (.sl (.int .u8) false true))), (26, (.one (.si .i64))), (27, (.one (.si .i64))), (31, (.one (.si .i64))), (35, (.one (.si .i64))), (36, (.one .sb))], [], [⟨.norm, [(1, (.one (.sl (.int .u8) false true))), (275, (.one .sb))], []⟩], [], []⟩
noncomputable def L0_R45_step : (List (Int) × Int × Int × Int × Int × Bool) → T (List (Int) × Bool) := fun (more, s, sum, total, last, six) =>
 (.test (total != sum)
 (.ret (more, true))
 (.test (! six)
 (.ret (more, true))
 (.sub (F66 s) fun z0 =>
 (.ret (more, (last != z0))))))
noncomputable def L0_R45 (v) := (L0_R45_step v).run
def L0_C36_sh : LSh := ⟨(fun ex => match ex with | .norm => [(1, none)] | .exit i => [] | .ret => [(4, none)]), [(1, (.one (.sl (.int .u8) false true))), (26, (.one (.si .i64))), (27, (.one (.si .i64))), (28, (.one .sb))], [], [⟨.ret, [(4, (.one .sb))], []⟩, ⟨.norm, [(1, (.one (.sl (.int .u8) false true)))], []⟩], [], []⟩
noncomputable def L0_C36_step : (List (Int) × Int × Int × Bool) → T (Bool ⊕ List (Int)) := fun (more, s, sum, four) =>
 (.test four
 (.sub (L0_L38 (more, (s, (sum, ((0 : Int), (0 : Int)))))) fun z0 =>
 (.test (Sum.isLeft z0)
 (.sub (Sum.getLeft? z0) fun z1 =>
 (.ret (Sum.inl z1)))
 (.sub (Sum.getRight? z0) fun z2 =>
 (.sub (F58 (z2.2.1, (w64 (z2.2.1 - 3)))) fun z3 =>
 (.sub (L0_R45 (z2.1, (z2.2.1, (z2.2.2.1, (z2.2.2.2, z3))))) fun z4 =>
 (.test z4.2
 (.ret (Sum.inl false))
 (.ret (Sum.inr z4.1))))))))
 (.ret (Sum.inr more)))
noncomputable def L0_C36 (v) := (L0_C36_step v).run
def L0_R59_sh : LSh := ⟨(fun ex => match ex with | .norm => [(37, none), (38, none), (39, none), (40, none), (43, none), (44, none), (45, none), (46, none), (56, none), (57, none), (58, none), (59, none), (388, none)] | .exit i => [] | .ret => [(4, none)]), [(37, (.one (.si .i64))), (38, (.one (.si .i64))), (39, (.one (.si .i64))), (40, (.one .sb)), (41, (.one (.si .i64))), (42, (.one .sb)), (43, (.one (.si .i64))), (44, (.one (.si .i64))), (45, (.one (.rw 0 0))), (46, (.one .sb)), (47, (.one (.sl (.pair (.int .i64) (.int .i64)) false true))), (48, (.one .sb)), (52, (.one .sb)), (53, (.one .sb)), (54, (.one .sb)), (55, (.one .sb)), (56, (.one (.rw 1 0))), (57, (.one (.si .i64))), (58, (.one (.rw 2 0))), (59, (.one .sb)), (60, (.one (.si .i64))), (61, (.one (.rw 3 0))), (62, (.one .sb))], [(.row 0 (.pair (.int .i64) (.int .i64))), (.row 0 (.int .i64)), (.row 0 (.pair (.int .i64) (.int .i64))), (.row 0 (.pair (.int .i64) (.int .i64)))], [⟨.norm, [(37, (.one (.si .i64))), (38, (.one (.si .i64))), (39, (.one (.si .i64))), (40, (.one .sb)), (43, (.one (.si .i64))), (44, (.one (.si .i64))), (45, (.one (.rw 0 0))), (46, (.one .sb)), (56, (.one (.rw 1 0))), (57, (.one (.si .i64))), (58, (.one (.rw 2 0))), (59, (.one .sb)), (388, (.one .sb))], [(.row 0 (.pair (.int .i64) (.int .i64))), (.row 0 (.int .i64)), (.row 0 (.pair (.int .i64) (.int .i64)))]⟩], [], []⟩
noncomputable def L0_R59_step : ((Int × Int × Int × Bool × Int × Bool × Int × Int × Unit × Bool × List ((Int × Int)) × Bool × Bool × Bool × Bool × Bool × Unit × Int × Unit × Bool × Int × Unit × Bool) × (List ((Int × Int)) × List (Int) × List ((Int × Int)) × List ((Int × Int)))) → T ((Int × Int × Int × Bool × Int × Int × Unit × Bool × Unit × Int × Unit × Bool × Bool) × (List ((Int × Int)) × List (Int) × List ((Int × Int)))) := fun ((p, size, equal, six, value, seven, q, part, (), eight, due, nine, is, ten, own, eleven, (), corners, (), twelve, a, (), thirteen), (first, sizes, cut, b)) =>
 (.test (! (six == seven))
 (.test (decide ((0 = 0) ∧ (first.length = first.length)))
 (.test (decide ((0 = 0) ∧ (sizes.length = sizes.length)))
 (.test (decide ((0 = 0) ∧ (cut.length = cut.length)))
 (.ret ((p, (size, (equal, (six, (q, (part, ((), (eight, ((), (corners, ((), (twelve, true)))))))))))), (first, (sizes, cut))))
 .fail)
 .fail)
 .fail)
 (.test (equal != value)
 (.test (decide ((0 = 0) ∧ (first.length = first.length)))
 (.test (decide ((0 = 0) ∧ (sizes.length = sizes.length)))
 (.test (decide ((0 = 0) ∧ (cut.length = cut.length)))
 (.ret ((p, (size, (equal, (six, (q, (part, ((), (eight, ((), (corners, ((), (twelve, true)))))))))))), (first, (sizes, cut))))
 .fail)
 .fail)
 .fail)
 (.test (! (eight == nine))
 (.test (decide ((0 = 0) ∧ (first.length = first.length)))
 (.test (decide ((0 = 0) ∧ (sizes.length = sizes.length)))
 (.test (decide ((0 = 0) ∧ (cut.length = cut.length)))
 (.ret ((p, (size, (equal, (six, (q, (part, ((), (eight, ((), (corners, ((), (twelve, true)))))))))))), (first, (sizes, cut))))
 .fail)
 .fail)
 .fail)
 (.test (decide ((0 + first.length) ≤ first.length))
 (.sub (F97 ((win first 0 first.length), due)) fun z0 =>
 (.test (! z0)
 (.test (decide ((0 = 0) ∧ (first.length = first.length)))
 (.test (decide ((0 = 0) ∧ (sizes.length = sizes.length)))
 (.test (decide ((0 = 0) ∧ (cut.length = cut.length)))
 (.ret ((p, (size, (equal, (six, (q, (part, ((), (eight, ((), (corners, ((), (twelve, true)))))))))))), (first, (sizes, cut))))
 .fail)
 .fail)
 .fail)
 (.test (! (ten == eleven))
 (.test (decide ((0 = 0) ∧ (first.length = first.length)))
 (.test (decide ((0 = 0) ∧ (sizes.length = sizes.length)))
 (.test (decide ((0 = 0) ∧ (cut.length = cut.length)))
 (.ret ((p, (size, (equal, (six, (q, (part, ((), (eight, ((), (corners, ((), (twelve, true)))))))))))), (first, (sizes, cut))))
 .fail)
 .fail)
 .fail)
 (.test (! (is == own))
 (.test (decide ((0 = 0) ∧ (first.length = first.length)))
 (.test (decide ((0 = 0) ∧ (sizes.length = sizes.length)))
 (.test (decide ((0 = 0) ∧ (cut.length = cut.length)))
 (.ret ((p, (size, (equal, (six, (q, (part, ((), (eight, ((), (corners, ((), (twelve, true)))))))))))), (first, (sizes, cut))))
 .fail)
 .fail)
 .fail)
 (.test (! (twelve == thirteen))
 (.test (decide ((0 = 0) ∧ (first.length = first.length)))
 (.test (decide ((0 = 0) ∧ (sizes.length = sizes.length)))
 (.test (decide ((0 = 0) ∧ (cut.length = cut.length)))
 (.ret ((p, (size, (equal, (six, (q, (part, ((), (eight, ((), (corners, ((), (twelve, true)))))))))))), (first, (sizes, cut))))
 .fail)
 .fail)
 .fail)
 (.test (corners != a)
 (.test (decide ((0 = 0) ∧ (first.length = first.length)))
 (.test (decide ((0 = 0) ∧ (sizes.length = sizes.length)))
 (.test (decide ((0 = 0) ∧ (cut.length = cut.length)))
 (.ret ((p, (size, (equal, (six, (q, (part, ((), (eight, ((), (corners, ((), (twelve, true)))))))))))), (first, (sizes, cut))))
 .fail)
 .fail)
 .fail)
 (.test (decide ((0 + cut.length) ≤ cut.length))
 (.test (decide ((0 + b.length) ≤ b.length))
 (.sub (F97 ((win cut 0 cut.length), (win b 0 b.length))) fun z1 =>
 (.test (decide ((0 = 0) ∧ (first.length = first.length)))
 (.test (decide ((0 = 0) ∧ (sizes.length = sizes.length)))
 (.test (decide ((0 = 0) ∧ (cut.length = cut.length)))
 (.ret ((p, (size, (equal, (six, (q, (part, ((), (eight, ((), (corners, ((), (twelve, (! z1))))))))))))), (first, (sizes, cut))))
 .fail)
 .fail)
 .fail))
 .fail)
 .fail)))))))
 .fail))))
noncomputable def L0_R59 (v) := (L0_R59_step v).run
def L0_R61_sh : LSh := ⟨(fun ex => match ex with | .norm => [(43, none), (44, none), (45, none), (46, none), (56, none), (57, none), (58, none), (59, none), (399, none)] | .exit i => [] | .ret => [(4, none)]), [(37, (.one (.si .i64))), (38, (.one (.si .i64))), (39, (.one (.si .i64))), (40, (.one .sb)), (43, (.one (.si .i64))), (44, (.one (.si .i64))), (45, (.one (.rw 0 0))), (46, (.one .sb)), (56, (.one (.rw 1 0))), (57, (.one (.si .i64))), (58, (.one (.rw 2 0))), (59, (.one .sb))], [(.row 0 (.pair (.int .i64) (.int .i64))), (.row 0 (.int .i64)), (.row 0 (.pair (.int .i64) (.int .i64)))], [⟨.norm, [(43, (.one (.si .i64))), (44, (.one (.si .i64))), (45, (.one (.rw 0 0))), (46, (.one .sb)), (56, (.one (.rw 1 0))), (57, (.one (.si .i64))), (58, (.one (.rw 2 0))), (59, (.one .sb)), (399, (.one .sb))], [(.row 0 (.pair (.int .i64) (.int .i64))), (.row 0 (.int .i64)), (.row 0 (.pair (.int .i64) (.int .i64)))]⟩], [], []⟩
noncomputable def L0_R61_step : ((Int × Int × Int × Bool × Int × Int × Unit × Bool × Unit × Int × Unit × Bool) × (List ((Int × Int)) × List (Int) × List ((Int × Int)))) → T ((Int × Int × Unit × Bool × Unit × Int × Unit × Bool × Bool) × (List ((Int × Int)) × List (Int) × List ((Int × Int)))) := fun ((p, size, equal, six, q, part, (), eight, (), corners, (), twelve), (first, sizes, cut)) =>
 (.test six
 (.test (size == 3)
 (.sub (F66 p) fun z0 =>
 (.test (decide ((0 = 0) ∧ (first.length = first.length)))
 (.test (decide ((0 = 0) ∧ (sizes.length = sizes.length)))
 (.test (decide ((0 = 0) ∧ (cut.length = cut.length)))
 (.ret ((q, (part, ((), (eight, ((), (corners, ((), (twelve, (equal != z0))))))))), (first, (sizes, cut))))
 .fail)
 .fail)
 .fail))
 (.test (decide ((0 = 0) ∧ (first.length = first.length)))
 (.test (decide ((0 = 0) ∧ (sizes.length = sizes.length)))
 (.test (decide ((0 = 0) ∧ (cut.length = cut.length)))
 (.ret ((q, (part, ((), (eight, ((), (corners, ((), (twelve, false)))))))), (first, (sizes, cut))))
 .fail)
 .fail)
 .fail))
 (.test (decide ((0 = 0) ∧ (first.length = first.length)))
 (.test (decide ((0 = 0) ∧ (sizes.length = sizes.length)))
 (.test (decide ((0 = 0) ∧ (cut.length = cut.length)))
 (.ret ((q, (part, ((), (eight, ((), (corners, ((), (twelve, false)))))))), (first, (sizes, cut))))
 .fail)
 .fail)
 .fail))
noncomputable def L0_R61 (v) := (L0_R61_step v).run
def L0_R66_sh : LSh := ⟨(fun ex => match ex with | .norm => [(56, none), (57, none), (58, none), (59, none), (427, none)] | .exit i => [] | .ret => [(4, none)]), [(56, (.one (.rw 0 0))), (57, (.one (.si .i64))), (58, (.one (.rw 1 0))), (59, (.one .sb)), (63, (.one .sb)), (64, (.one .sb)), (65, (.one (.si .i64))), (66, (.one .sb))], [(.row 0 (.int .i64)), (.row 0 (.pair (.int .i64) (.int .i64)))], [⟨.norm, [(56, (.one (.rw 0 0))), (57, (.one (.si .i64))), (58, (.one (.rw 1 0))), (59, (.one .sb)), (427, (.one .sb))], [(.row 0 (.int .i64)), (.row 0 (.pair (.int .i64) (.int .i64)))]⟩], [], []⟩
noncomputable def L0_R66_step : ((Unit × Int × Unit × Bool × Bool × Bool × Int × Bool) × (List (Int) × List ((Int × Int)))) → T ((Unit × Int × Unit × Bool × Bool) × (List (Int) × List ((Int × Int)))) := fun (((), corners, (), twelve, whole, fourteen, some', fifteen), (sizes, cut)) =>
 (.test (! fourteen)
 (.test (decide ((0 = 0) ∧ (sizes.length = sizes.length)))
 (.test (decide ((0 = 0) ∧ (cut.length = cut.length)))
 (.ret (((), (corners, ((), (twelve, true)))), (sizes, cut)))
 .fail)
 .fail)
 (.test (! whole)
 (.test (decide ((0 = 0) ∧ (sizes.length = sizes.length)))
 (.test (decide ((0 = 0) ∧ (cut.length = cut.length)))
 (.ret (((), (corners, ((), (twelve, true)))), (sizes, cut)))
 .fail)
 .fail)
 (.test (! fifteen)
 (.test (decide ((0 = 0) ∧ (sizes.length = sizes.length)))
 (.test (decide ((0 = 0) ∧ (cut.length = cut.length)))
 (.ret (((), (corners, ((), (twelve, true)))), (sizes, cut)))
 .fail)
 .fail)
 (.test (decide ((0 = 0) ∧ (sizes.length = sizes.length)))
 (.test (decide ((0 = 0) ∧ (cut.length = cut.length)))
 (.ret (((), (corners, ((), (twelve, (decide (some' < 1)))))), (sizes, cut)))
 .fail)
 .fail))))
noncomputable def L0_R66 (v) := (L0_R66_step v).run
def L0_C64_sh : LSh := ⟨(fun ex => match ex with | .norm => [(56, none), (57, none), (58, none), (59, none)] | .exit i => [] | .ret => [(4, none)]), [(43, (.one (.si .i64))), (44, (.one (.si .i64))), (45, (.one (.rw 0 0))), (46, (.one .sb)), (56, (.one (.rw 1 0))), (57, (.one (.si .i64))), (58, (.one (.rw 2 0))), (59, (.one .sb))], [(.row 0 (.pair (.int .i64) (.int .i64))), (.row 0 (.int .i64)), (.row 0 (.pair (.int .i64) (.int .i64)))], [⟨.ret, [(4, (.one .sb))], []⟩, ⟨.norm, [(56, (.one (.rw 0 0))), (57, (.one (.si .i64))), (58, (.one (.rw 1 0))), (59, (.one .sb))], [(.row 0 (.int .i64)), (.row 0 (.pair (.int .i64) (.int .i64)))]⟩], [], []⟩
noncomputable def L0_C64_step : ((Int × Int × Unit × Bool × Unit × Int × Unit × Bool) × (List ((Int × Int)) × List (Int) × List ((Int × Int)))) → T (Bool ⊕ ((Unit × Int × Unit × Bool) × (List (Int) × List ((Int × Int))))) := fun ((q, part, (), eight, (), corners, (), twelve), (first, sizes, cut)) =>
 (.test eight
 (.test (decide ((0 + first.length) ≤ first.length))
 (.sub (F47 (q, ((win first 0 first.length), part))) fun z0 =>
 (.sub (F23 (q, part)) fun z1 =>
 (.test (decide ((0 = 0) ∧ (sizes.length = sizes.length)))
 (.test (decide ((0 = 0) ∧ (cut.length = cut.length)))
 (.sub (L0_R66 (((), (corners, ((), (twelve, (z0.1, (z0.2, z1)))))), (sizes, cut))) fun z2 =>
 (.test z2.1.2.2.2.2
 (.ret (Sum.inl false))
 (.test (decide ((0 = 0) ∧ (z2.2.1.length = z2.2.1.length)))
 (.test (decide ((0 = 0) ∧ (z2.2.2.length = z2.2.2.length)))
 (.ret (Sum.inr (((), (z2.1.2.1, ((), z2.1.2.2.2.1))), z2.2)))
 .fail)
 .fail)))
 .fail)
 .fail)))
 .fail)
 (.test (decide ((0 = 0) ∧ (sizes.length = sizes.length)))
 (.test (decide ((0 = 0) ∧ (cut.length = cut.length)))
 (.ret (Sum.inr (((), (corners, ((), twelve))), (sizes, cut))))
 .fail)
 .fail))
noncomputable def L0_C64 (v) := (L0_C64_step v).run
def L0_R70_sh : LSh := ⟨(fun ex => match ex with | .norm => [(58, none), (450, none)] | .exit i => [] | .ret => [(4, none)]), [(56, (.one (.rw 0 0))), (58, (.one (.rw 1 0))), (67, (.one (.rw 2 0))), (68, (.one .sb))], [(.row 0 (.int .i64)), (.row 0 (.pair (.int .i64) (.int .i64))), (.row 0 (.int .i64))], [⟨.norm, [(58, (.one (.rw 0 0))), (450, (.one .sb))], [(.row 0 (.pair (.int .i64) (.int .i64)))]⟩], [], []⟩
noncomputable def L0_R70_step : ((Unit × Unit × Unit × Bool) × (List (Int) × List ((Int × Int)) × List (Int))) → T ((Unit × Bool) × List ((Int × Int))) := fun (((), (), (), fourteen), (sizes, cut, of')) =>
 (.test (! fourteen)
 (.test (decide ((0 = 0) ∧ (cut.length = cut.length)))
 (.ret (((), true), cut))
 .fail)
 (.test ((of'.length : Int) != (sizes.length : Int))
 (.test (decide ((0 = 0) ∧ (cut.length = cut.length)))
 (.ret (((), true), cut))
 .fail)
 (.test (decide ((0 + of'.length) ≤ of'.length))
 (.sub (F115 (win of' 0 of'.length)) fun z0 =>
 (.test (decide ((0 + sizes.length) ≤ sizes.length))
 (.sub (F115 (win sizes 0 sizes.length)) fun z1 =>
 (.test (decide ((0 = 0) ∧ (cut.length = cut.length)))
 (.ret (((), (z0 != z1)), cut))
 .fail))
 .fail))
 .fail)))
noncomputable def L0_R70 (v) := (L0_R70_step v).run
def L0_L73_sh : LSh := ⟨(fun ex => match ex with | .norm => [(451, none), (452, none), (453, none)] | .exit i => if i = 4 then [] else [] | .ret => [(4, none)]), [(451, (.one (.rw 0 0))), (452, (.one (.si .i64))), (453, (.one (.si .i64)))], [(.row 0 (.pair (.int .i64) (.int .i64)))], [⟨.ret, [(4, (.one .sb))], []⟩, ⟨(.exit 4), [], []⟩], [], []⟩
noncomputable def L0_L73_step : ((Unit × Int × Int) × List ((Int × Int))) → T (((Unit × Int × Int) × List ((Int × Int))) ⊕ (Bool ⊕ Unit)) := fun (((), t452, t453), t451) =>
 (.test (decide (t453 < t452))
 (.test (decide ((0 ≤ t453) ∧ (t453 < (t451.length : Int))))
 (.sub (t451[(0 + (Int.toNat t453))]?) fun z0 =>
 (.test (z0.1 != 0)
 (.ret (Sum.inr (Sum.inl false)))
 (.test (decide ((0 = 0) ∧ (t451.length = t451.length)))
 (.ret (Sum.inl (((), (t452, (w64 (t453 + 1)))), t451)))
 .fail)))
 .fail)
 (.ret (Sum.inr (Sum.inr ()))))
noncomputable def L0_L73 (v) := loopO (fun v => (L0_L73_step v).run) v
def L0_fo : List FO := [⟨[(.one .sb)], []⟩]
noncomputable def L0_t : (List (Int) × List (Int)) → T Bool := fun (code, more) =>
 (.sub (F117 (code, more)) fun z0 =>
 (.test z0
 (.ret true)
 (.sub (F38 code) fun z1 =>
 (.sub (F70 z1) fun z2 =>
 (.sub (F72 z1) fun z3 =>
 (.sub (F58 z1) fun z4 =>
 (.test (decide ((0 = 0) ∧ (z2.2.length = z2.2.length)))
 (.test (decide ((0 = 0) ∧ (z3.2.length = z3.2.length)))
 (.sub (L0_R7 ((more, (z1.1, (z1.2, ((), (z2.1.2, ((), (z3.1.2, z4))))))), (z2.2, z3.2))) fun z5 =>
 (.test z5.1.2.2.2.2.2.2
 (.ret false)
 (.test (decide ((0 = 0) ∧ (z5.2.length = z5.2.length)))
 (.sub (L0_C10 ((z5.1.1, (z5.1.2.1, (z5.1.2.2.1, ((), (z5.1.2.2.2.2.1, z5.1.2.2.2.2.2.1))))), z5.2)) fun z6 =>
 (.test (Sum.isLeft z6)
 (.sub (Sum.getLeft? z6) fun z7 =>
 (.ret z7))
 (.sub (Sum.getRight? z6) fun z8 =>
 (.sub (F30 z8) fun z9 =>
 (.sub (F58 z9) fun z10 =>
 (.sub (F59 z9) fun z11 =>
 (.sub (F17 z8) fun z12 =>
 (.sub (F35 z12) fun z13 =>
 (.sub (F36 z12) fun z14 =>
 (.sub (L0_R33 (z8, (z10.1, (z10.2, (z11.1, (z11.2, (z12, (z13.1, (z13.2, z14))))))))) fun z15 =>
 (.test z15.2.2.2.2
 (.ret false)
 (.sub (L0_C36 (z15.1, (z15.2.1, (z15.2.2.1, z15.2.2.2.1)))) fun z16 =>
 (.test (Sum.isLeft z16)
 (.sub (Sum.getLeft? z16) fun z17 =>
 (.ret z17))
 (.sub (Sum.getRight? z16) fun z18 =>
 (.sub (F10 z18) fun z19 =>
 (.sub (F23 z19) fun z20 =>
 (.sub (F24 z19) fun z21 =>
 (.sub (F15 z18) fun z22 =>
 (.sub (F31 z22) fun z23 =>
 (.sub (F32 z22) fun z24 =>
 (.sub (F25 z18) fun z25 =>
 (.sub (F47 z25) fun z26 =>
 (.sub (F48 z25) fun z27 =>
 (.sub (F26 z18) fun z28 =>
 (.test (decide ((0 + z28.2.length) ≤ z28.2.length))
 (.sub (F49 (win z28.2 0 z28.2.length)) fun z29 =>
 (.test (decide ((0 + z28.2.length) ≤ z28.2.length))
 (.sub (F50 (win z28.2 0 z28.2.length)) fun z30 =>
 (.test (decide ((0 = 0) ∧ (z23.2.length = z23.2.length)))
 (.test (decide ((0 = 0) ∧ (z28.2.length = z28.2.length)))
 (.test (decide ((0 = 0) ∧ (z29.2.length = z29.2.length)))
 (.test (decide ((0 = 0) ∧ (z30.2.length = z30.2.length)))
 (.sub (L0_R59 ((z19.1, (z19.2, (z20.1, (z20.2, (z21.1, (z21.2, (z22.1, (z22.2, ((), (z23.1.2, (z24.1, (z24.2, (z26.1, (z26.2, (z27.1, (z27.2, ((), (z29.1.1, ((), (z29.1.2.2, (z30.1.1, ((), z30.1.2.2)))))))))))))))))))))), (z23.2, (z28.2, (z29.2, z30.2))))) fun z31 =>
 (.test z31.1.2.2.2.2.2.2.2.2.2.2.2.2
 (.ret false)
 (.test (decide ((0 = 0) ∧ (z31.2.1.length = z31.2.1.length)))
 (.test (decide ((0 = 0) ∧ (z31.2.2.1.length = z31.2.2.1.length)))
 (.test (decide ((0 = 0) ∧ (z31.2.2.2.length = z31.2.2.2.length)))
 (.sub (L0_R61 ((z31.1.1, (z31.1.2.1, (z31.1.2.2.1, (z31.1.2.2.2.1, (z31.1.2.2.2.2.1, (z31.1.2.2.2.2.2.1, ((), (z31.1.2.2.2.2.2.2.2.1, ((), (z31.1.2.2.2.2.2.2.2.2.2.1, ((), z31.1.2.2.2.2.2.2.2.2.2.2.2.1))))))))))), z31.2)) fun z32 =>
 (.test z32.1.2.2.2.2.2.2.2.2
 (.ret false)
 (.test (decide ((0 = 0) ∧ (z32.2.1.length = z32.2.1.length)))
 (.test (decide ((0 = 0) ∧ (z32.2.2.1.length = z32.2.2.1.length)))
 (.test (decide ((0 = 0) ∧ (z32.2.2.2.length = z32.2.2.2.length)))
 (.sub (L0_C64 ((z32.1.1, (z32.1.2.1, ((), (z32.1.2.2.2.1, ((), (z32.1.2.2.2.2.2.1, ((), z32.1.2.2.2.2.2.2.2.1))))))), z32.2)) fun z33 =>
 (.test (Sum.isLeft z33)
 (.sub (Sum.getLeft? z33) fun z34 =>
 (.ret z34))
 (.sub (Sum.getRight? z33) fun z35 =>
 (.test z35.1.2.2.2
 (.test (decide ((0 + z35.2.2.length) ≤ z35.2.2.length))
 (.sub (F51 (z35.1.2.1, (win z35.2.2 0 z35.2.2.length))) fun z36 =>
 (.test (decide ((0 = 0) ∧ (z35.2.1.length = z35.2.1.length)))
 (.test (decide ((0 = 0) ∧ (z35.2.2.length = z35.2.2.length)))
 (.test (decide ((0 = 0) ∧ (z36.2.length = z36.2.length)))
 (.sub (L0_R70 (((), ((), ((), z36.1.2))), (z35.2.1, (z35.2.2, z36.2)))) fun z37 =>
 (.test z37.1.2
 (.ret false)
 (.test (decide ((0 = 0) ∧ (z37.2.length = z37.2.length)))
 (.sub (L0_L73 (((), ((z37.2.length : Int), (0 : Int))), z37.2)) fun z38 =>
 (.test (Sum.isLeft z38)
 (.sub (Sum.getLeft? z38) fun z39 =>
 (.ret z39))
 (.sub (Sum.getRight? z38) fun z40 =>
 (.ret true))))
 .fail)))
 .fail)
 .fail)
 .fail))
 .fail)
 (.ret true)))))
 .fail)
 .fail)
 .fail)))
 .fail)
 .fail)
 .fail)))
 .fail)
 .fail)
 .fail)
 .fail))
 .fail))
 .fail)))))))))))))))))))))))))
 .fail)))
 .fail)
 .fail)))))))
noncomputable def L0 (v) := (L0_t v).run
noncomputable def L0_E : TEnv := (((((((((((((((((((((((((((((E0.add1 n_F117 F117_sh F117_fo F117).add1 n_F38 F38_sh F38_fo F38).add1 n_F70 F70_sh F70_fo F70).add1 n_F72 F72_sh F72_fo F72).add1 n_F58 F58_sh F58_fo F58).add1 n_F83 F83_sh F83_fo F83).add1 n_F98 F98_sh F98_fo F98).add1 n_F99 F99_sh F99_fo F99).add1 n_F47 F47_sh F47_fo F47).add1 n_F23 F23_sh F23_fo F23).add1 n_F30 F30_sh F30_fo F30).add1 n_F59 F59_sh F59_fo F59).add1 n_F17 F17_sh F17_fo F17).add1 n_F35 F35_sh F35_fo F35).add1 n_F36 F36_sh F36_fo F36).add1 n_F66 F66_sh F66_fo F66).add1 n_F10 F10_sh F10_fo F10).add1 n_F24 F24_sh F24_fo F24).add1 n_F15 F15_sh F15_fo F15).add1 n_F31 F31_sh F31_fo F31).add1 n_F32 F32_sh F32_fo F32).add1 n_F25 F25_sh F25_fo F25).add1 n_F48 F48_sh F48_fo F48).add1 n_F26 F26_sh F26_fo F26).add1 n_F49 F49_sh F49_fo F49).add1 n_F50 F50_sh F50_fo F50).add1 n_F97 F97_sh F97_fo F97).add1 n_F51 F51_sh F51_fo F51).add1 n_F115 F115_sh F115_fo F115)
theorem L0_Eok : (L0_E).OK := (((((((((((((((((((((((((((((E0ok.add1 F117_ok).add1 F38_ok).add1 F70_ok).add1 F72_ok).add1 F58_ok).add1 F83_ok).add1 F98_ok).add1 F99_ok).add1 F47_ok).add1 F23_ok).add1 F30_ok).add1 F59_ok).add1 F17_ok).add1 F35_ok).add1 F36_ok).add1 F66_ok).add1 F10_ok).add1 F24_ok).add1 F15_ok).add1 F31_ok).add1 F32_ok).add1 F25_ok).add1 F48_ok).add1 F26_ok).add1 F49_ok).add1 F50_ok).add1 F97_ok).add1 F51_ok).add1 F115_ok)
noncomputable def L0_told : Nat → Option SealT := fun id => if id = 2000007 then some (LSh.cut L0_R7_sh 0 [(1, none), (5, none), (6, none), (7, none), (8, none), (9, none), (10, none), (11, none), (12, none)] (L0_R7)) else if id = 2000014 then some (LSh.cut L0_R14_sh 0 [(1, none), (5, none), (6, none), (7, none), (11, none), (13, none), (14, none), (15, none), (114, none), (115, none), (116, none)] (L0_R14)) else if id = 12 then some (LSh.told L0_L12_sh 0 (L0_L12_step)) else if id = 2000025 then some (LSh.cut L0_R25_sh 0 [(1, none), (5, none), (6, none), (13, none), (18, none), (19, none)] (L0_R25)) else if id = 1000010 then some (LSh.cut L0_C10_sh 0 [(1, none), (5, none), (6, none), (7, none), (8, none), (11, none)] (L0_C10)) else if id = 2000033 then some (LSh.cut L0_R33_sh 0 [(1, none), (22, none), (23, none), (24, none), (25, none), (26, none), (27, none), (28, none), (29, none), (30, none)] (L0_R33)) else if id = 38 then some (LSh.told L0_L38_sh 0 (L0_L38_step)) else if id = 2000045 then some (LSh.cut L0_R45_sh 0 [(1, none), (26, none), (27, none), (31, none), (35, none), (36, none)] (L0_R45)) else if id = 1000036 then some (LSh.cut L0_C36_sh 0 [(1, none), (26, none), (27, none), (28, none)] (L0_C36)) else if id = 2000059 then some (LSh.cut L0_R59_sh 0 [(37, none), (38, none), (39, none), (40, none), (41, none), (42, none), (43, none), (44, none), (45, none), (46, none), (47, none), (48, none), (52, none), (53, none), (54, none), (55, none), (56, none), (57, none), (58, none), (59, none), (60, none), (61, none), (62, none)] (L0_R59)) else if id = 2000061 then some (LSh.cut L0_R61_sh 0 [(37, none), (38, none), (39, none), (40, none), (43, none), (44, none), (45, none), (46, none), (56, none), (57, none), (58, none), (59, none)] (L0_R61)) else if id = 2000066 then some (LSh.cut L0_R66_sh 0 [(56, none), (57, none), (58, none), (59, none), (63, none), (64, none), (65, none), (66, none)] (L0_R66)) else if id = 1000064 then some (LSh.cut L0_C64_sh 0 [(43, none), (44, none), (45, none), (46, none), (56, none), (57, none), (58, none), (59, none)] (L0_C64)) else if id = 2000070 then some (LSh.cut L0_R70_sh 0 [(56, none), (58, none), (67, none), (68, none)] (L0_R70)) else if id = 73 then some (LSh.told L0_L73_sh 0 (L0_L73_step)) else none
theorem L0_R7_ok : CutOK Tryz.prog 0 (cutAt (loopAt (bodyOf fn_l_FnCutsCounted) []) 9) (LSh.cut L0_R7_sh 0 [(1, none), (5, none), (6, none), (7, none), (8, none), (9, none), (10, none), (11, none), (12, none)] (L0_R7)) :=
 cut_ok (E := L0_E) (L0_Eok) (told := L0_told) (l := L0_R7_sh) (head := [(1, none), (5, none), (6, none), (7, none), (8, none), (9, none), (10, none), (11, none), (12, none)]) (F := L0_R7_step) (loopsOK_of2 (ls := []) (cs := []) (by kernel_rfl) trivial (by kernel_rfl) trivial) (fun v => by kernel_rfl)
theorem L0_R14_ok : CutOK Tryz.prog 0 (cutAt (loopAt (bodyOf fn_l_FnCutsCounted) [0]) 4) (LSh.cut L0_R14_sh 0 [(1, none), (5, none), (6, none), (7, none), (11, none), (13, none), (14, none), (15, none), (114, none), (115, none), (116, none)] (L0_R14)) :=
 cut_ok (E := L0_E) (L0_Eok) (told := L0_told) (l := L0_R14_sh) (head := [(1, none), (5, none), (6, none), (7, none), (11, none), (13, none), (14, none), (15, none), (114, none), (115, none), (116, none)]) (F := L0_R14_step) (loopsOK_of2 (ls := []) (cs := []) (by kernel_rfl) trivial (by kernel_rfl) trivial) (fun v => by kernel_rfl)
theorem L0_L12_ok : ToldOK Tryz.prog 0 (loopAt (bodyOf fn_l_FnCutsCounted) [0]) (LSh.told L0_L12_sh 0 (L0_L12_step)) :=
 loop_ok (E := L0_E) (L0_Eok) (told := L0_told) (l := L0_L12_sh) (step := L0_L12_step) (loopsOK_of2 (ls := []) (cs := [cutAt (loopAt (bodyOf fn_l_FnCutsCounted) [0]) 0, cutAt (loopAt (bodyOf fn_l_FnCutsCounted) [0]) 1, cutAt (loopAt (bodyOf fn_l_FnCutsCounted) [0]) 2, cutAt (loopAt (bodyOf fn_l_FnCutsCounted) [0]) 3, cutAt (loopAt (bodyOf fn_l_FnCutsCounted) [0]) 4, cutAt (loopAt (bodyOf fn_l_FnCutsCounted) [0]) 5, cutAt (loopAt (bodyOf fn_l_FnCutsCounted) [0]) 6, cutAt (loopAt (bodyOf fn_l_FnCutsCounted) [0]) 7, cutAt (loopAt (bodyOf fn_l_FnCutsCounted) [0]) 8, cutAt (loopAt (bodyOf fn_l_FnCutsCounted) [0]) 9, cutAt (loopAt (bodyOf fn_l_FnCutsCounted) [0]) 10]) (by kernel_rfl) trivial (by kernel_rfl) ⟨.inl (by kernel_rfl), ⟨.inl (by kernel_rfl), ⟨.inl (by kernel_rfl), ⟨.inl (by kernel_rfl), ⟨.inr ⟨_, by kernel_rfl, L0_R14_ok⟩, ⟨.inl (by kernel_rfl), ⟨.inl (by kernel_rfl), ⟨.inl (by kernel_rfl), ⟨.inl (by kernel_rfl), ⟨.inl (by kernel_rfl), ⟨.inl (by kernel_rfl), trivial⟩⟩⟩⟩⟩⟩⟩⟩⟩⟩⟩) (by kernel_rfl) (fun v => by kernel_rfl)
theorem L0_R25_ok : CutOK Tryz.prog 0 (cutAt (loopAt (bodyOf fn_l_FnCutsCounted) []) 19) (LSh.cut L0_R25_sh 0 [(1, none), (5, none), (6, none), (13, none), (18, none), (19, none)] (L0_R25)) :=
 cut_ok (E := L0_E) (L0_Eok) (told := L0_told) (l := L0_R25_sh) (head := [(1, none), (5, none), (6, none), (13, none), (18, none), (19, none)]) (F := L0_R25_step) (loopsOK_of2 (ls := []) (cs := []) (by kernel_rfl) trivial (by kernel_rfl) trivial) (fun v => by kernel_rfl)
theorem L0_C10_ok : CutOK Tryz.prog 0 (cutAt (loopAt (bodyOf fn_l_FnCutsCounted) []) 11) (LSh.cut L0_C10_sh 0 [(1, none), (5, none), (6, none), (7, none), (8, none), (11, none)] (L0_C10)) :=
 cut_ok (E := L0_E) (L0_Eok) (told := L0_told) (l := L0_C10_sh) (head := [(1, none), (5, none), (6, none), (7, none), (8, none), (11, none)]) (F := L0_C10_step) (loopsOK_of2 (ls := [loopAt (bodyOf fn_l_FnCutsCounted) [0]]) (cs := [cutAt (loopAt (bodyOf fn_l_FnCutsCounted) []) 12, cutAt (loopAt (bodyOf fn_l_FnCutsCounted) []) 13, cutAt (loopAt (bodyOf fn_l_FnCutsCounted) []) 14, cutAt (loopAt (bodyOf fn_l_FnCutsCounted) []) 15, cutAt (loopAt (bodyOf fn_l_FnCutsCounted) []) 16, cutAt (loopAt (bodyOf fn_l_FnCutsCounted) []) 17, cutAt (loopAt (bodyOf fn_l_FnCutsCounted) []) 18, cutAt (loopAt (bodyOf fn_l_FnCutsCounted) []) 19, cutAt (loopAt (bodyOf fn_l_FnCutsCounted) []) 20]) (by kernel_rfl) ⟨.inr ⟨_, by kernel_rfl, L0_L12_ok⟩, trivial⟩ (by kernel_rfl) ⟨.inl (by kernel_rfl), ⟨.inl (by kernel_rfl), ⟨.inl (by kernel_rfl), ⟨.inl (by kernel_rfl), ⟨.inl (by kernel_rfl), ⟨.inl (by kernel_rfl), ⟨.inl (by kernel_rfl), ⟨.inr ⟨_, by kernel_rfl, L0_R25_ok⟩, ⟨.inl (by kernel_rfl), trivial⟩⟩⟩⟩⟩⟩⟩⟩⟩) (fun v => by kernel_rfl)
theorem L0_R33_ok : CutOK Tryz.prog 0 (cutAt (loopAt (bodyOf fn_l_FnCutsCounted) []) 28) (LSh.cut L0_R33_sh 0 [(1, none), (22, none), (23, none), (24, none), (25, none), (26, none), (27, none), (28, none), (29, none), (30, none)] (L0_R33)) :=
 cut_ok (E := L0_E) (L0_Eok) (told := L0_told) (l := L0_R33_sh) (head := [(1, none), (22, none), (23, none), (24, none), (25, none), (26, none), (27, none), (28, none), (29, none), (30, none)]) (F := L0_R33_step) (loopsOK_of2 (ls := []) (cs := []) (by kernel_rfl) trivial (by kernel_rfl) trivial) (fun v => by kernel_rfl)
theorem L0_L38_ok : ToldOK Tryz.prog 0 (loopAt (bodyOf fn_l_FnCutsCounted) [1]) (LSh.told L0_L38_sh 0 (L0_L38_step)) :=
 loop_ok (E := L0_E) (L0_Eok) (told := L0_told) (l := L0_L38_sh) (step := L0_L38_step) (loopsOK_of2 (ls := []) (cs := [cutAt (loopAt (bodyOf fn_l_FnCutsCounted) [1]) 0, cutAt (loopAt (bodyOf fn_l_FnCutsCounted) [1]) 1, cutAt (loopAt (bodyOf fn_l_FnCutsCounted) [1]) 2, cutAt (loopAt (bodyOf fn_l_FnCutsCounted) [1]) 3, cutAt (loopAt (bodyOf fn_l_FnCutsCounted) [1]) 4, cutAt (loopAt (bodyOf fn_l_FnCutsCounted) [1]) 5]) (by kernel_rfl) trivial (by kernel_rfl) ⟨.inl (by kernel_rfl), ⟨.inl (by kernel_rfl), ⟨.inl (by kernel_rfl), ⟨.inl (by kernel_rfl), ⟨.inl (by kernel_rfl), ⟨.inl (by kernel_rfl), trivial⟩⟩⟩⟩⟩⟩) (by kernel_rfl) (fun v => by kernel_rfl)
theorem L0_R45_ok : CutOK Tryz.prog 0 (cutAt (loopAt (bodyOf fn_l_FnCutsCounted) []) 35) (LSh.cut L0_R45_sh 0 [(1, none), (26, none), (27, none), (31, none), (35, none), (36, none)] (L0_R45)) :=
 cut_ok (E := L0_E) (L0_Eok) (told := L0_told) (l := L0_R45_sh) (head := [(1, none), (26, none), (27, none), (31, none), (35, none), (36, none)]) (F := L0_R45_step) (loopsOK_of2 (ls := []) (cs := []) (by kernel_rfl) trivial (by kernel_rfl) trivial) (fun v => by kernel_rfl)
theorem L0_C36_ok : CutOK Tryz.prog 0 (cutAt (loopAt (bodyOf fn_l_FnCutsCounted) []) 30) (LSh.cut L0_C36_sh 0 [(1, none), (26, none), (27, none), (28, none)] (L0_C36)) :=
 cut_ok (E := L0_E) (L0_Eok) (told := L0_told) (l := L0_C36_sh) (head := [(1, none), (26, none), (27, none), (28, none)]) (F := L0_C36_step) (loopsOK_of2 (ls := [loopAt (bodyOf fn_l_FnCutsCounted) [1]]) (cs := [cutAt (loopAt (bodyOf fn_l_FnCutsCounted) []) 31, cutAt (loopAt (bodyOf fn_l_FnCutsCounted) []) 32, cutAt (loopAt (bodyOf fn_l_FnCutsCounted) []) 33, cutAt (loopAt (bodyOf fn_l_FnCutsCounted) []) 34, cutAt (loopAt (bodyOf fn_l_FnCutsCounted) []) 35, cutAt (loopAt (bodyOf fn_l_FnCutsCounted) []) 36]) (by kernel_rfl) ⟨.inr ⟨_, by kernel_rfl, L0_L38_ok⟩, trivial⟩ (by kernel_rfl) ⟨.inl (by kernel_rfl), ⟨.inl (by kernel_rfl), ⟨.inl (by kernel_rfl), ⟨.inl (by kernel_rfl), ⟨.inr ⟨_, by kernel_rfl, L0_R45_ok⟩, ⟨.inl (by kernel_rfl), trivial⟩⟩⟩⟩⟩⟩) (fun v => by kernel_rfl)
theorem L0_R59_ok : CutOK Tryz.prog 0 (cutAt (loopAt (bodyOf fn_l_FnCutsCounted) []) 50) (LSh.cut L0_R59_sh 0 [(37, none), (38, none), (39, none), (40, none), (41, none), (42, none), (43, none), (44, none), (45, none), (46, none), (47, none), (48, none), (52, none), (53, none), (54, none), (55, none), (56, none), (57, none), (58, none), (59, none), (60, none), (61, none), (62, none)] (L0_R59)) :=
 cut_ok (E := L0_E) (L0_Eok) (told := L0_told) (l := L0_R59_sh) (head := [(37, none), (38, none), (39, none), (40, none), (41, none), (42, none), (43, none), (44, none), (45, none), (46, none), (47, none), (48, none), (52, none), (53, none), (54, none), (55, none), (56, none), (57, none), (58, none), (59, none), (60, none), (61, none), (62, none)]) (F := L0_R59_step) (loopsOK_of2 (ls := []) (cs := []) (by kernel_rfl) trivial (by kernel_rfl) trivial) (fun v => by kernel_rfl)
theorem L0_R61_ok : CutOK Tryz.prog 0 (cutAt (loopAt (bodyOf fn_l_FnCutsCounted) []) 53) (LSh.cut L0_R61_sh 0 [(37, none), (38, none), (39, none), (40, none), (43, none), (44, none), (45, none), (46, none), (56, none), (57, none), (58, none), (59, none)] (L0_R61)) :=
 cut_ok (E := L0_E) (L0_Eok) (told := L0_told) (l := L0_R61_sh) (head := [(37, none), (38, none), (39, none), (40, none), (43, none), (44, none), (45, none), (46, none), (56, none), (57, none), (58, none), (59, none)]) (F := L0_R61_step) (loopsOK_of2 (ls := []) (cs := []) (by kernel_rfl) trivial (by kernel_rfl) trivial) (fun v => by kernel_rfl)
theorem L0_R66_ok : CutOK Tryz.prog 0 (cutAt (loopAt (bodyOf fn_l_FnCutsCounted) []) 59) (LSh.cut L0_R66_sh 0 [(56, none), (57, none), (58, none), (59, none), (63, none), (64, none), (65, none), (66, none)] (L0_R66)) :=
 cut_ok (E := L0_E) (L0_Eok) (told := L0_told) (l := L0_R66_sh) (head := [(56, none), (57, none), (58, none), (59, none), (63, none), (64, none), (65, none), (66, none)]) (F := L0_R66_step) (loopsOK_of2 (ls := []) (cs := []) (by kernel_rfl) trivial (by kernel_rfl) trivial) (fun v => by kernel_rfl)
theorem L0_C64_ok : CutOK Tryz.prog 0 (cutAt (loopAt (bodyOf fn_l_FnCutsCounted) []) 55) (LSh.cut L0_C64_sh 0 [(43, none), (44, none), (45, none), (46, none), (56, none), (57, none), (58, none), (59, none)] (L0_C64)) :=
 cut_ok (E := L0_E) (L0_Eok) (told := L0_told) (l := L0_C64_sh) (head := [(43, none), (44, none), (45, none), (46, none), (56, none), (57, none), (58, none), (59, none)]) (F := L0_C64_step) (loopsOK_of2 (ls := []) (cs := [cutAt (loopAt (bodyOf fn_l_FnCutsCounted) []) 56, cutAt (loopAt (bodyOf fn_l_FnCutsCounted) []) 57, cutAt (loopAt (bodyOf fn_l_FnCutsCounted) []) 58, cutAt (loopAt (bodyOf fn_l_FnCutsCounted) []) 59, cutAt (loopAt (bodyOf fn_l_FnCutsCounted) []) 60]) (by kernel_rfl) trivial (by kernel_rfl) ⟨.inl (by kernel_rfl), ⟨.inl (by kernel_rfl), ⟨.inl (by kernel_rfl), ⟨.inr ⟨_, by kernel_rfl, L0_R66_ok⟩, ⟨.inl (by kernel_rfl), trivial⟩⟩⟩⟩⟩) (fun v => by kernel_rfl)
theorem L0_R70_ok : CutOK Tryz.prog 0 (cutAt (loopAt (bodyOf fn_l_FnCutsCounted) []) 65) (LSh.cut L0_R70_sh 0 [(56, none), (58, none), (67, none), (68, none)] (L0_R70)) :=
 cut_ok (E := L0_E) (L0_Eok) (told := L0_told) (l := L0_R70_sh) (head := [(56, none), (58, none), (67, none), (68, none)]) (F := L0_R70_step) (loopsOK_of2 (ls := []) (cs := []) (by kernel_rfl) trivial (by kernel_rfl) trivial) (fun v => by kernel_rfl)
theorem L0_L73_ok : ToldOK Tryz.prog 0 (loopAt (bodyOf fn_l_FnCutsCounted) [2]) (LSh.told L0_L73_sh 0 (L0_L73_step)) :=
 loop_ok (E := L0_E) (L0_Eok) (told := L0_told) (l := L0_L73_sh) (step := L0_L73_step) (loopsOK_of2 (ls := []) (cs := [cutAt (loopAt (bodyOf fn_l_FnCutsCounted) [2]) 0, cutAt (loopAt (bodyOf fn_l_FnCutsCounted) [2]) 1, cutAt (loopAt (bodyOf fn_l_FnCutsCounted) [2]) 2, cutAt (loopAt (bodyOf fn_l_FnCutsCounted) [2]) 3, cutAt (loopAt (bodyOf fn_l_FnCutsCounted) [2]) 4]) (by kernel_rfl) trivial (by kernel_rfl) ⟨.inl (by kernel_rfl), ⟨.inl (by kernel_rfl), ⟨.inl (by kernel_rfl), ⟨.inl (by kernel_rfl), ⟨.inl (by kernel_rfl), trivial⟩⟩⟩⟩⟩) (by kernel_rfl) (fun v => by kernel_rfl)
theorem L0_ok : FOK Tryz.prog n_l_FnCutsCounted L0_sh L0_fo L0 :=
 fn_ok (E := L0_E) (L0_Eok) (told := L0_told) (fl := []) (c := bodyOf fn_l_FnCutsCounted) (s := L0_sh) (l := L0_fo) (tree := L0_t) fnat_l_FnCutsCounted (by kernel_rfl) (by kernel_rfl) (by kernel_rfl) (loopsOK_of2 (ls := [loopAt (bodyOf fn_l_FnCutsCounted) [0], loopAt (bodyOf fn_l_FnCutsCounted) [1], loopAt (bodyOf fn_l_FnCutsCounted) [2]]) (cs := [cutAt (loopAt (bodyOf fn_l_FnCutsCounted) []) 0, cutAt (loopAt (bodyOf fn_l_FnCutsCounted) []) 1, cutAt (loopAt (bodyOf fn_l_FnCutsCounted) []) 2, cutAt (loopAt (bodyOf fn_l_FnCutsCounted) []) 3, cutAt (loopAt (bodyOf fn_l_FnCutsCounted) []) 4, cutAt (loopAt (bodyOf fn_l_FnCutsCounted) []) 5, cutAt (loopAt (bodyOf fn_l_FnCutsCounted) []) 6, cutAt (loopAt (bodyOf fn_l_FnCutsCounted) []) 7, cutAt (loopAt (bodyOf fn_l_FnCutsCounted) []) 8, cutAt (loopAt (bodyOf fn_l_FnCutsCounted) []) 9, cutAt (loopAt (bodyOf fn_l_FnCutsCounted) []) 10, cutAt (loopAt (bodyOf fn_l_FnCutsCounted) []) 11, cutAt (loopAt (bodyOf fn_l_FnCutsCounted) []) 12, cutAt (loopAt (bodyOf fn_l_FnCutsCounted) []) 13, cutAt (loopAt (bodyOf fn_l_FnCutsCounted) []) 14, cutAt (loopAt (bodyOf fn_l_FnCutsCounted) []) 15, cutAt (loopAt (bodyOf fn_l_FnCutsCounted) []) 16, cutAt (loopAt (bodyOf fn_l_FnCutsCounted) []) 17, cutAt (loopAt (bodyOf fn_l_FnCutsCounted) []) 18, cutAt (loopAt (bodyOf fn_l_FnCutsCounted) []) 19, cutAt (loopAt (bodyOf fn_l_FnCutsCounted) []) 20, cutAt (loopAt (bodyOf fn_l_FnCutsCounted) []) 21, cutAt (loopAt (bodyOf fn_l_FnCutsCounted) []) 22, cutAt (loopAt (bodyOf fn_l_FnCutsCounted) []) 23, cutAt (loopAt (bodyOf fn_l_FnCutsCounted) []) 24, cutAt (loopAt (bodyOf fn_l_FnCutsCounted) []) 25, cutAt (loopAt (bodyOf fn_l_FnCutsCounted) []) 26, cutAt (loopAt (bodyOf fn_l_FnCutsCounted) []) 27, cutAt (loopAt (bodyOf fn_l_FnCutsCounted) []) 28, cutAt (loopAt (bodyOf fn_l_FnCutsCounted) []) 29, cutAt (loopAt (bodyOf fn_l_FnCutsCounted) []) 30, cutAt (loopAt (bodyOf fn_l_FnCutsCounted) []) 31, cutAt (loopAt (bodyOf fn_l_FnCutsCounted) []) 32, cutAt (loopAt (bodyOf fn_l_FnCutsCounted) []) 33, cutAt (loopAt (bodyOf fn_l_FnCutsCounted) []) 34, cutAt (loopAt (bodyOf fn_l_FnCutsCounted) []) 35, cutAt (loopAt (bodyOf fn_l_FnCutsCounted) []) 36, cutAt (loopAt (bodyOf fn_l_FnCutsCounted) []) 37, cutAt (loopAt (bodyOf fn_l_FnCutsCounted) []) 38, cutAt (loopAt (bodyOf fn_l_FnCutsCounted) []) 39, cutAt (loopAt (bodyOf fn_l_FnCutsCounted) []) 40, cutAt (loopAt (bodyOf fn_l_FnCutsCounted) []) 41, cutAt (loopAt (bodyOf fn_l_FnCutsCounted) []) 42, cutAt (loopAt (bodyOf fn_l_FnCutsCounted) []) 43, cutAt (loopAt (bodyOf fn_l_FnCutsCounted) []) 44, cutAt (loopAt (bodyOf fn_l_FnCutsCounted) []) 45, cutAt (loopAt (bodyOf fn_l_FnCutsCounted) []) 46, cutAt (loopAt (bodyOf fn_l_FnCutsCounted) []) 47, cutAt (loopAt (bodyOf fn_l_FnCutsCounted) []) 48, cutAt (loopAt (bodyOf fn_l_FnCutsCounted) []) 49, cutAt (loopAt (bodyOf fn_l_FnCutsCounted) []) 50, cutAt (loopAt (bodyOf fn_l_FnCutsCounted) []) 51, cutAt (loopAt (bodyOf fn_l_FnCutsCounted) []) 52, cutAt (loopAt (bodyOf fn_l_FnCutsCounted) []) 53, cutAt (loopAt (bodyOf fn_l_FnCutsCounted) []) 54, cutAt (loopAt (bodyOf fn_l_FnCutsCounted) []) 55, cutAt (loopAt (bodyOf fn_l_FnCutsCounted) []) 56, cutAt (loopAt (bodyOf fn_l_FnCutsCounted) []) 57, cutAt (loopAt (bodyOf fn_l_FnCutsCounted) []) 58, cutAt (loopAt (bodyOf fn_l_FnCutsCounted) []) 59, cutAt (loopAt (bodyOf fn_l_FnCutsCounted) []) 60, cutAt (loopAt (bodyOf fn_l_FnCutsCounted) []) 61, cutAt (loopAt (bodyOf fn_l_FnCutsCounted) []) 62, cutAt (loopAt (bodyOf fn_l_FnCutsCounted) []) 63, cutAt (loopAt (bodyOf fn_l_FnCutsCounted) []) 64, cutAt (loopAt (bodyOf fn_l_FnCutsCounted) []) 65, cutAt (loopAt (bodyOf fn_l_FnCutsCounted) []) 66, cutAt (loopAt (bodyOf fn_l_FnCutsCounted) []) 67, cutAt (loopAt (bodyOf fn_l_FnCutsCounted) []) 68]) (by kernel_rfl) ⟨.inr ⟨_, by kernel_rfl, L0_L12_ok⟩, ⟨.inr ⟨_, by kernel_rfl, L0_L38_ok⟩, ⟨.inr ⟨_, by kernel_rfl, L0_L73_ok⟩, trivial⟩⟩⟩ (by kernel_rfl) ⟨.inl (by kernel_rfl), ⟨.inl (by kernel_rfl), ⟨.inl (by kernel_rfl), ⟨.inl (by kernel_rfl), ⟨.inl (by kernel_rfl), ⟨.inl (by kernel_rfl), ⟨.inl (by kernel_rfl), ⟨.inl (by kernel_rfl), ⟨.inl (by kernel_rfl), ⟨.inr ⟨_, by kernel_rfl, L0_R7_ok⟩, ⟨.inl (by kernel_rfl), ⟨.inr ⟨_, by kernel_rfl, L0_C10_ok⟩, ⟨.inl (by kernel_rfl), ⟨.inl (by kernel_rfl), ⟨.inl (by kernel_rfl), ⟨.inl (by kernel_rfl), ⟨.inl (by kernel_rfl), ⟨.inl (by kernel_rfl), ⟨.inl (by kernel_rfl), ⟨.inr ⟨_, by kernel_rfl, L0_R25_ok⟩, ⟨.inl (by kernel_rfl), ⟨.inl (by kernel_rfl), ⟨.inl (by kernel_rfl), ⟨.inl (by kernel_rfl), ⟨.inl (by kernel_rfl), ⟨.inl (by kernel_rfl), ⟨.inl (by kernel_rfl), ⟨.inl (by kernel_rfl), ⟨.inr ⟨_, by kernel_rfl, L0_R33_ok⟩, ⟨.inl (by kernel_rfl), ⟨.inr ⟨_, by kernel_rfl, L0_C36_ok⟩, ⟨.inl (by kernel_rfl), ⟨.inl (by kernel_rfl), ⟨.inl (by kernel_rfl), ⟨.inl (by kernel_rfl), ⟨.inr ⟨_, by kernel_rfl, L0_R45_ok⟩, ⟨.inl (by kernel_rfl), ⟨.inl (by kernel_rfl), ⟨.inl (by kernel_rfl), ⟨.inl (by kernel_rfl), ⟨.inl (by kernel_rfl), ⟨.inl (by kernel_rfl), ⟨.inl (by kernel_rfl), ⟨.inl (by kernel_rfl), ⟨.inl (by kernel_rfl), ⟨.inl (by kernel_rfl), ⟨.inl (by kernel_rfl), ⟨.inl (by kernel_rfl), ⟨.inl (by kernel_rfl), ⟨.inl (by kernel_rfl), ⟨.inr ⟨_, by kernel_rfl, L0_R59_ok⟩, ⟨.inl (by kernel_rfl), ⟨.inl (by kernel_rfl), ⟨.inr ⟨_, by kernel_rfl, L0_R61_ok⟩, ⟨.inl (by kernel_rfl), ⟨.inr ⟨_, by kernel_rfl, L0_C64_ok⟩, ⟨.inl (by kernel_rfl), ⟨.inl (by kernel_rfl), ⟨.inl (by kernel_rfl), ⟨.inr ⟨_, by kernel_rfl, L0_R66_ok⟩, ⟨.inl (by kernel_rfl), ⟨.inl (by kernel_rfl), ⟨.inl (by kernel_rfl), ⟨.inl (by kernel_rfl), ⟨.inl (by kernel_rfl), ⟨.inr ⟨_, by kernel_rfl, L0_R70_ok⟩, ⟨.inl (by kernel_rfl), ⟨.inl (by kernel_rfl), ⟨.inl (by kernel_rfl), trivial⟩⟩⟩⟩⟩⟩⟩⟩⟩⟩⟩⟩⟩⟩⟩⟩⟩⟩⟩⟩⟩⟩⟩⟩⟩⟩⟩⟩⟩⟩⟩⟩⟩⟩⟩⟩⟩⟩⟩⟩⟩⟩⟩⟩⟩⟩⟩⟩⟩⟩⟩⟩⟩⟩⟩⟩⟩⟩⟩⟩⟩⟩⟩⟩⟩⟩⟩⟩⟩) (fun v => by kernel_rfl)
theorem fin_cc : ∀ n : Nat, n ≤ 8 → ∀ k : Nat, k ≤ 5 → 3 ≤ n → k + 3 ≤ n → ((cutsK n k).length : Int) = ccV n k := by decide +kernel
theorem fin_ce4 : ∀ n : Nat, n ≤ 8 → ∀ k : Nat, k ≤ 5 → 3 ≤ n → k + 3 ≤ n → (((cutsK n k).countP (eqC n 4) : Nat) : Int) = if (n : Int) = 2 * k + 4 then (ceR n 4).1 else 0 := by decide +kernel
theorem fin_last : ∀ n : Nat, n ≤ 12 → 3 ≤ n → ccV n ((n : Int) - 3) = catV n := by decide +kernel
theorem fin_ce3 : ∀ n : Nat, n ≤ 12 → 3 ≤ n → (ceR n 3).1 = catV n := by decide +kernel
theorem fin_ce1 : ∀ n : Nat, n ≤ 8 → ∀ s : Nat, s ≤ 8 → 3 ≤ n → 3 ≤ s → ((n : Int) - 2) % ((s : Int) - 2) = 0 → 1 ≤ (ceR n s).1 := by decide +kernel
theorem adj_get : ∀ (l : List (List Dg)), adjD l = true → ∀ (i : Nat) (a b : List Dg), l[i]? = some a → l[i + 1]? = some b → lexD a b = true
 | [], _, i, a, b, h, _ => by simp at h
 | [x], _, i, a, b, _, h => by simp at h
 | x :: y :: t, hl, i, a, b, ha, hb => by
  unfold adjD at hl
  rw [Bool.and_eq_true] at hl
  cases i with
  | zero =>
   simp only [List.getElem?_cons_zero, Option.some.injEq, List.getElem?_cons_succ] at ha hb
   rw [← ha, ← hb]; exact hl.1
  | succ i =>
   rw [List.getElem?_cons_succ] at ha hb
   exact adj_get (y :: t) hl.2 i a b ha hb
theorem cc_R7 (more : List Int) (n k count : Int) (ok one : Bool) (all : List (List Dg)) (hl : all.length ≤ 1000000000) (hx : ∀ x ∈ all, x.length ≤ 1000) (h : ok = true → one = true) :
  L0_R7 ((more, (n, (k, ((), (ok, ((), (ok, (count, one)))))))), (all, all)) = some ((more, (n, (k, ((), (ok, (count, false)))))), all) := by
 have u := uLists_val all all (by omega) (fun x h => by have := hx x h; omega)
 rw [L0_R7, L0_R7_step, T.run_test, if_neg (by simp), T.run_test, if_pos (by simp), T.run_test, if_pos (by simp), win_all, T.run_sub, u, Option.bind_some, T.run_test, if_neg (by simp), T.run_test]
 cases ok with
 | true => rw [if_pos rfl, T.run_test, if_pos (by simp), T.run_ret, h rfl]; rfl
 | false => rw [if_neg (by simp), T.run_test, if_pos (by simp), T.run_ret]
theorem cc_R14 (more : List Int) (n k count tri : Int) (i : Nat) (t1 t2 : Int) (ds : List Dg) (all : List (List Dg)) (hl : all.length ≤ 1000000000) (hi : i < all.length) (hx : ∀ x ∈ all, x.length ≤ 1000) (hd : ds.length ≤ 1000) (hc : isCut n ds = true) (hk : (ds.length : Int) = k)
  (hlex : ∀ j, i = j + 1 → ∀ a, all[j]? = some a → lexD a ds = true) :
  L0_R14 ((more, (n, (k, ((), (count, (tri, ((i : Int), (ds, ((), (t1, t2)))))))))), all) = some ((more, (n, (k, ((), (count, (tri, (ds, ((), (t1, (t2, false)))))))))), all) := by
 rw [L0_R14, L0_R14_step, T.run_sub, F98_eq n ds (by omega), hc, Option.bind_some, T.run_test, if_neg (by simp), T.run_test, if_neg (by simp [hk]), T.run_test]
 by_cases h0 : (i : Int) > 0
 ·obtain ⟨j, rfl⟩ : ∃ j, i = j + 1 := ⟨i - 1, by omega⟩
  have w : w64 (((j + 1 : Nat) : Int) - 1) = (j : Int) := by rw [w64_id (by omega) (by omega)]; omega
  have hj : j < all.length := by omega
  have hm := List.getElem_mem hj
  rw [if_pos (decide_eq_true h0), T.run_test, w, if_pos (decide_eq_true (by omega)), T.run_sub, Int.toNat_natCast, Nat.zero_add, List.getElem?_eq_getElem hj, Option.bind_some, T.run_sub, F99_eq _ _ (by have := hx _ hm; omega), hlex j rfl _ (List.getElem?_eq_getElem hj), Option.bind_some, T.run_test, if_pos (by simp), T.run_test, if_pos (by simp), T.run_ret]
  rfl
 ·rw [if_neg (by rw [decide_eq_true_eq]; exact h0), T.run_test, if_pos (by simp), T.run_test, if_pos (by simp), T.run_ret]
theorem cc_L12 (more : List Int) (N K : Nat) (count : Int) (all : List (List Dg)) (hl : all.length ≤ 1000000000) (hc : ∀ x ∈ all, isCut N x = true ∧ x.length = K) (hadj : adjD all = true) : ∀ (m i : Nat) (tri : Int), i + m = all.length → 0 ≤ tri ∧ tri ≤ (i : Int) →
  L0_L12 ((more, ((N : Int), ((K : Int), ((), (count, (tri, ((), ((all.length : Int), (i : Int))))))))), all) = some (.inr ((more, ((N : Int), ((K : Int), ((), (count, tri + (((all.drop i).countP fun ds => (szL N ds).all fun s => s == 4 : Nat) : Int)))))), all)) := by
 have hx : ∀ x ∈ all, x.length ≤ 1000 := fun x h => cut_short (hc x h).1
 intro m
 induction m with
 | zero =>
  intro i tri hi ht
  rw [List.drop_of_length_le (by omega), List.countP_nil, show tri + ((0 : Nat) : Int) = tri by omega]
  refine loopO_done ?_
  rw [L0_L12_step, T.run_test, if_neg (by rw [decide_eq_true_eq]; omega), T.run_test, if_pos (by simp), T.run_ret]
 | succ m ih =>
  intro i tri hi ht
  have hlt : i < all.length := by omega
  have hm := List.getElem_mem hlt
  obtain ⟨c1, c2⟩ := hc _ hm
  have w1 : w64 ((i : Int) + 1) = ((i + 1 : Nat) : Int) := by rw [w64_id (by omega) (by omega)]; omega
  have w2 : w64 (tri + 1) = tri + 1 := w64_id (by omega) (by omega)
  have hr := cc_R14 more (N : Int) (K : Int) count tri i (all.length : Int) (i : Int) all[i] all hl hlt hx (hx _ hm) c1 (by omega) (fun j hj a ha => by
   subst hj
   exact adj_get all hadj j a all[j + 1] ha (List.getElem?_eq_getElem hlt))
  have he := F47_eq (N : Int) all[i] 4 (by have := hx _ hm; omega)
  unfold ieR at he
  rw [if_pos ⟨c1, by omega⟩, Int.toNat_natCast] at he
  have st : (L0_L12_step ((more, ((N : Int), ((K : Int), ((), (count, (tri, ((), ((all.length : Int), (i : Int))))))))), all)).run = some (.inl ((more, ((N : Int), ((K : Int), ((), (count, (tri + (if ((szL N all[i]).all fun s => s == 4) = true then 1 else 0), ((), ((all.length : Int), ((i + 1 : Nat) : Int))))))))), all)) := by
   rw [L0_L12_step, T.run_test, if_pos (decide_eq_true (by omega)), T.run_test, if_pos (decide_eq_true (by omega)), T.run_sub, Int.toNat_natCast, Nat.zero_add, List.getElem?_eq_getElem hlt, Option.bind_some, T.run_test, if_pos (by simp), T.run_test, if_pos (by simp), T.run_sub, hr, Option.bind_some, T.run_test, if_neg (by simp), T.run_sub]
   dsimp only
   rw [he, Option.bind_some, T.run_test, if_neg (by simp), T.run_test]
   dsimp only
   cases (szL N all[i]).all fun s => s == 4 with
   | true => rw [if_pos rfl, T.run_test, if_pos (by simp), T.run_test, if_pos (by simp), T.run_ret, w1, w2]; rfl
   | false => rw [if_neg (by simp), T.run_test, if_pos (by simp), T.run_test, if_pos (by simp), T.run_ret, w1, if_neg (by simp), Int.add_zero]
  refine (loopO_next st).trans ((ih (i + 1) _ (by omega) (by split <;> omega)).trans ?_)
  rw [List.drop_eq_getElem_cons hlt, List.countP_cons]
  cases (szL N all[i]).all fun s => s == 4 with
  | true => simp only [if_true]; congr 8; omega
  | false => simp only [Bool.false_eq_true, if_false, Int.add_zero, Nat.add_zero]
theorem cc_R25 (more : List Int) (n k tri equal : Int) (hn : -1000 ≤ k ∧ k ≤ 1000) (h : if n = 2 * k + 4 then tri = equal else tri = 0) : L0_R25 (more, (n, (k, (tri, (equal, true))))) = some (more, false) := by
 have w1 : w64 (2 * k) = 2 * k := w64_id (by omega) (by omega)
 have w2 : w64 (2 * k + 4) = 2 * k + 4 := w64_id (by omega) (by omega)
 rw [L0_R25, L0_R25_step, T.run_test, if_neg (by simp), T.run_test, w1, w2]
 by_cases c : n = 2 * k + 4
 ·rw [if_pos c] at h
  rw [if_pos (by simp [c]), T.run_test, if_neg (by simp [h]), T.run_test, if_neg (by simp [c]), T.run_ret]
 ·rw [if_neg c] at h
  rw [if_neg (by simp [c]), T.run_test, if_pos (by simp [c]), T.run_ret, h]
  rfl
theorem cc_C10 (more : List Int) (n k count : Int) (ok : Bool) (all : List (List Dg)) (h : ok = true → ∃ N K : Nat, n = (N : Int) ∧ k = (K : Int) ∧ 3 ≤ N ∧ N ≤ 8 ∧ K + 3 ≤ N ∧ all = cutsK N K ∧ count = ccV N K) :
  L0_C10 ((more, (n, (k, ((), (ok, count))))), all) = some (.inr more) := by
 rw [L0_C10, L0_C10_step, T.run_test]
 cases ok with
 | false => rw [if_neg (by simp), T.run_ret]
 | true =>
  obtain ⟨N, K, rfl, rfl, h3, h8, hK, rfl, rfl⟩ := h rfl
  obtain ⟨f1, f2⟩ := cutsK_ok N h8 K (by omega) h3 hK
  have hcut : ∀ x ∈ cutsK N K, isCut N x = true ∧ x.length = K := fun x hx => by
   have := List.all_eq_true.1 f1 x hx
   rw [Bool.and_eq_true, decide_eq_true_eq] at this
   exact this
  have hlen := fin_cc N h8 K (by omega) h3 hK
  have hlen2 : (cutsK N K).length ≤ 1000000000 := by
   have h1 : (lookL K (dgL N) []).length ≤ 2 ^ (dgL N).length := by
    unfold lookL
    split
    ·exact Nat.one_le_two_pow
    ·exact goL_len _ _ _
   have h2 : 2 ^ (dgL N).length ≤ 2 ^ 27 := Nat.pow_le_pow_right (by omega) (dgL_len N (by omega))
   have h27 : (2 : Nat) ^ 27 = 134217728 := by decide
   show (lookL K (dgL N) []).length ≤ _
   omega
  have hL := cc_L12 more N K (ccV N K) (cutsK N K) hlen2 hcut f2 (cutsK N K).length 0 0 (by omega) (by omega)
  rw [List.drop_zero, Int.zero_add] at hL
  have hL' : L0_L12 ((more, ((N : Int), ((K : Int), ((), (ccV (N : Int) (K : Int), ((0 : Int), ((), (((cutsK N K).length : Int), (0 : Int))))))))), cutsK N K) = _ := hL
  have hcount : (cutsK N K).countP (fun ds => (szL N ds).all fun s => s == 4) = (cutsK N K).countP (eqC N 4) := by
   refine List.countP_congr fun ds hds => ?_
   obtain ⟨k, e, _, _, _, hc⟩ := isCut_cut (hcut ds hds).1
   obtain rfl : k = N := by omega
   have := eqC_szL hc h3 4
   rw [← this]
   exact Iff.rfl
  have hq := F23_eq (N : Int) 4 (by omega)
  have hq2 : (ceR (N : Int) 4).2 = true := by
   unfold ceR
   rw [if_pos (by rw [inB_iff.2 (by omega)]; rfl)]
  have h25 := cc_R25 more (N : Int) (K : Int) (((cutsK N K).countP (eqC N 4) : Nat) : Int) (ceR (N : Int) 4).1 (by omega) (by
   have := fin_ce4 N h8 K (by omega) h3 hK
   rw [this]
   split <;> rfl)
  rw [if_pos rfl, T.run_test, if_pos (by simp), T.run_test, if_pos (by simp), T.run_sub, hL', Option.bind_some, T.run_test, if_neg (by simp [Sum.isLeft]), T.run_sub]
  simp only [Sum.getRight?, Option.bind_some]
  rw [T.run_test, if_neg (by simp [hlen]), T.run_sub, hq, Option.bind_some, T.run_sub, hcount]
  have e4 : (ceR (N : Int) 4) = ((ceR (N : Int) 4).1, true) := Prod.ext rfl hq2
  rw [e4, h25, Option.bind_some, T.run_test, if_neg (by simp), T.run_ret]
theorem cc_L38 (more : List Int) (s : Int) (hs : 3 ≤ s ∧ s ≤ 12) (sum : Int) : ∀ (m k : Nat) (total : Int), (k : Int) + (m : Int) = s - 2 →
  L0_L38 (more, (s, (sum, (total, (k : Int))))) = some (.inr (more, (s, (sum, caS s m k total)))) := by
 have w : w64 (s - 3) = s - 3 := w64_id (by omega) (by omega)
 intro m
 induction m with
 | zero =>
  intro k total hk
  refine loopO_done ?_
  rw [L0_L38_step, T.run_test, w, if_neg (by rw [decide_eq_true_eq]; omega), T.run_ret]
  rfl
 | succ m ih =>
  intro k total hk
  have w1 : w64 ((k : Int) + 1) = ((k + 1 : Nat) : Int) := by rw [w64_id (by omega) (by omega)]; omega
  have hc := F58_eq s (k : Int)
  unfold ccR at hc
  rw [if_pos (by rw [inB_iff.2 hs, inB_iff.2 (by omega)]; rfl)] at hc
  unfold caS
  rw [← ih (k + 1) (w64 (total + ccV s (k : Int))) (by omega)]
  refine loopO_next ?_
  rw [L0_L38_step, T.run_test, w, if_pos (decide_eq_true (by omega)), T.run_sub, hc, Option.bind_some, T.run_test, if_neg (by simp), T.run_ret, w1]
theorem cc_C36 (more : List Int) (s : Int) : L0_C36 (more, (s, ((caR s).1, (caR s).2))) = some (.inr more) := by
 rw [L0_C36, L0_C36_step, T.run_test]
 unfold caR
 by_cases hn : inB 3 12 s = true
 ·have hs := inB_iff.1 hn
  obtain ⟨N, rfl⟩ := Int.eq_ofNat_of_zero_le (show 0 ≤ s by omega)
  rw [if_pos hn, if_pos rfl, T.run_sub]
  dsimp only
  have hL := cc_L38 more (N : Int) hs (caS (N : Int) ((N : Int) - 2).toNat 0 0) ((N : Int) - 2).toNat 0 0 (by omega)
  have hL' : L0_L38 (more, ((N : Int), (caS (N : Int) ((N : Int) - 2).toNat 0 0, ((0 : Int), (0 : Int))))) = _ := hL
  have w : w64 ((N : Int) - 3) = (N : Int) - 3 := w64_id (by omega) (by omega)
  have hc := F58_eq (N : Int) ((N : Int) - 3)
  unfold ccR at hc
  rw [if_pos (by rw [hn, inB_iff.2 (by omega)]; rfl)] at hc
  rw [hL', Option.bind_some, T.run_test, if_neg (by simp [Sum.isLeft]), T.run_sub]
  simp only [Sum.getRight?, Option.bind_some]
  have hcat := F66_eq N (by omega)
  have h45 : L0_R45 (more, ((N : Int), (caS (N : Int) ((N : Int) - 2).toNat 0 0, (caS (N : Int) ((N : Int) - 2).toNat 0 0, (ccV (N : Int) ((N : Int) - 3), true))))) = some (more, false) := by
   rw [L0_R45, L0_R45_step, T.run_test, if_neg (by simp), T.run_test, if_neg (by simp), T.run_sub, hcat, Option.bind_some, T.run_ret, fin_last N (by omega) (by omega)]
   simp
  rw [T.run_sub, w, hc, Option.bind_some, T.run_sub, h45, Option.bind_some, T.run_test, if_neg (by simp), T.run_ret]
 ·rw [if_neg hn, if_neg (by simp), T.run_ret]
theorem cc_R59 (p size equal value q part corners : Int) (six eight ten is twelve : Bool) (first cut : List Dg) (sizes : List Int) (h1 : first.length ≤ 1000) (h2 : cut.length ≤ 1000) :
  L0_R59 ((p, (size, (equal, (six, (equal, (six, (q, (part, ((), (eight, (first, (eight, (is, (ten, (is, (ten, ((), (corners, ((), (twelve, (corners, ((), twelve)))))))))))))))))))))), (first, (sizes, (cut, cut)))) =
   some ((p, (size, (equal, (six, (q, (part, ((), (eight, ((), (corners, ((), (twelve, false)))))))))))), (first, (sizes, cut))) := by
 have u1 := uCuts_val first first (by omega)
 have u2 := uCuts_val cut cut (by omega)
 rw [L0_R59, L0_R59_step, T.run_test, if_neg (by simp), T.run_test, if_neg (by simp), T.run_test, if_neg (by simp), T.run_test, if_pos (by simp), win_all, T.run_sub, u1, Option.bind_some, T.run_test, if_neg (by simp), T.run_test, if_neg (by simp), T.run_test, if_neg (by simp), T.run_test, if_neg (by simp), T.run_test, if_neg (by simp), T.run_test, if_pos (by simp), T.run_test, if_pos (by simp), win_all, T.run_sub, u2, Option.bind_some]
 repeat rw [T.run_test, if_pos (by simp)]
 rw [T.run_ret]
 simp
theorem cc_R61 (p size q part corners : Int) (eight twelve : Bool) (first cut : List Dg) (sizes : List Int) :
  L0_R61 ((p, (size, ((ceR p size).1, ((ceR p size).2, (q, (part, ((), (eight, ((), (corners, ((), twelve))))))))))), (first, (sizes, cut))) = some ((q, (part, ((), (eight, ((), (corners, ((), (twelve, false)))))))), (first, (sizes, cut))) := by
 rw [L0_R61, L0_R61_step, T.run_test]
 by_cases h6 : (ceR p size).2 = true
 ·have hp : inB 3 12 p = true := by
   unfold ceR at h6
   split at h6
   ·rename_i h; rw [Bool.and_eq_true] at h; exact h.1
   ·cases h6
  have hp' := inB_iff.1 hp
  rw [if_pos h6, T.run_test]
  by_cases h3 : size = 3
  ·subst h3
   obtain ⟨N, rfl⟩ := Int.eq_ofNat_of_zero_le (show 0 ≤ p by omega)
   rw [if_pos (by rfl), T.run_sub, F66_eq N (by omega), Option.bind_some]
   repeat rw [T.run_test, if_pos (by simp)]
   rw [T.run_ret, fin_ce3 N (by omega) (by omega)]
   simp
  ·rw [if_neg (by simpa using h3)]
   repeat rw [T.run_test, if_pos (by simp)]
   rw [T.run_ret]
 ·rw [if_neg h6]
  repeat rw [T.run_test, if_pos (by simp)]
  rw [T.run_ret]
theorem cc_C64 (q part corners : Int) (hpart : part ≤ 9223372036854775807) (twelve : Bool) (cut : List Dg) (sizes : List Int) (eight : Bool) (first : List Dg) (hf : eight = true → feR q part = some first) :
  L0_C64 ((q, (part, ((), (eight, ((), (corners, ((), twelve))))))), (first, (sizes, cut))) = some (.inr (((), (corners, ((), twelve))), (sizes, cut))) := by
 rw [L0_C64, L0_C64_step, T.run_test]
 cases eight with
 | false =>
  rw [if_neg (by simp), T.run_test, if_pos (by simp), T.run_test, if_pos (by simp), T.run_ret]
 | true =>
  have hfe := hf rfl
  have hlen := feR_short hfe
  unfold feR at hfe
  split at hfe
  ·rename_i hC
   obtain ⟨N, rfl, f3, f8, f4, f5, f6, f7, f9, f10, f11, f12⟩ := fe_facts hC
   rw [Int.toNat_natCast] at hfe
   have hmem := List.mem_of_find?_eq_some hfe
   have hsz := List.find?_some hfe
   have hcut := cutsK_cut f3 f8 f6 first hmem
   have hI := F47_eq (N : Int) first part (by omega)
   unfold ieR at hI
   rw [if_pos ⟨hcut, f4⟩, Int.toNat_natCast, hsz] at hI
   have hq := F23_eq (N : Int) part hpart
   have hm : ((N : Int) - 2) % (part - 2) = 0 := by
    unfold feC at hC
    rw [Bool.and_eq_true, Bool.and_eq_true, decide_eq_true_eq, decide_eq_true_eq] at hC
    exact hC.2.2
   have hq2 : ceR (N : Int) part = ((ceR (N : Int) part).1, true) := by
    refine Prod.ext rfl ?_
    unfold ceR
    rw [if_pos (by rw [inB_iff.2 (by omega), decide_eq_true f4]; rfl)]
   have hone : 1 ≤ (ceR (N : Int) part).1 := by
    obtain ⟨s, rfl⟩ := Int.eq_ofNat_of_zero_le (show 0 ≤ part by omega)
    exact fin_ce1 N f8 s (by omega) f3 (by omega) hm
   have h66 : L0_R66 (((), (corners, ((), (twelve, (true, (true, ((ceR (N : Int) part).1, true))))))), (sizes, cut)) = some (((), (corners, ((), (twelve, false)))), (sizes, cut)) := by
    rw [L0_R66, L0_R66_step, T.run_test, if_neg (by simp), T.run_test, if_neg (by simp), T.run_test, if_neg (by simp), T.run_test, if_pos (by simp), T.run_test, if_pos (by simp), T.run_ret, decide_eq_false (by omega)]
   rw [if_pos rfl, T.run_test, if_pos (by simp), win_all, T.run_sub, hI, Option.bind_some, T.run_sub, hq, hq2, Option.bind_some, T.run_test, if_pos (by simp), T.run_test, if_pos (by simp), T.run_sub, h66, Option.bind_some, T.run_test, if_neg (by simp), T.run_test, if_pos (by simp), T.run_test, if_pos (by simp), T.run_ret]
  ·cases hfe
theorem cc_R70 (cut : List Dg) (sizes of' : List Int) (h1 : of'.length = sizes.length) (h2 : of'.sum = sizes.sum) (hl : sizes.length ≤ 1000) (hb : ∀ z ∈ sizes, 0 ≤ z ∧ z ≤ 1000) (hb2 : ∀ z ∈ of', 0 ≤ z ∧ z ≤ 1000) :
  L0_R70 (((), ((), ((), true))), (sizes, (cut, of'))) = some (((), false), cut) := by
 rw [L0_R70, L0_R70_step, T.run_test, if_neg (by simp), T.run_test, if_neg (by simp [h1]), T.run_test, if_pos (by simp), win_all, T.run_sub, F115_eq of' (by omega) hb2, Option.bind_some, T.run_test, if_pos (by simp), win_all, T.run_sub, F115_eq sizes hl hb, Option.bind_some, T.run_test, if_pos (by simp), T.run_ret, h2]
 simp
theorem cc_L73 (cut : List Dg) (hl : cut.length ≤ 1000) (h0 : ∀ d ∈ cut, d.1 = 0) : ∀ (m k : Nat), k + m = cut.length → L0_L73 (((), ((cut.length : Int), (k : Int))), cut) = some (.inr ()) := by
 intro m
 induction m with
 | zero =>
  intro k hk
  refine loopO_done ?_
  rw [L0_L73_step, T.run_test, if_neg (by rw [decide_eq_true_eq]; omega), T.run_ret]
 | succ m ih =>
  intro k hk
  have hlt : k < cut.length := by omega
  have w1 : w64 ((k : Int) + 1) = ((k + 1 : Nat) : Int) := by rw [w64_id (by omega) (by omega)]; omega
  rw [← ih (k + 1) (by omega)]
  refine loopO_next ?_
  rw [L0_L73_step, T.run_test, if_pos (decide_eq_true (by omega)), T.run_test, if_pos (decide_eq_true (by omega)), T.run_sub, Int.toNat_natCast, Nat.zero_add, List.getElem?_eq_getElem hlt, Option.bind_some, T.run_test, if_neg (by simp [h0 _ (List.getElem_mem hlt)]), T.run_test, if_pos (by simp), T.run_ret, w1]
theorem L0_true (v : List Int × List Int) (hs : smallL ASh.small [.one (.sl (.int .u8) false true), .one (.sl (.int .u8) false true)] v) : L0 v = some true := by
 obtain ⟨code, more⟩ := v
 have hb : ∀ l : List Int, (∀ x ∈ l, wfE (.int .u8) x) → bytesOK l := fun l h x hx => by
  have := h x hx
  simp [wfE, Lit.wf, IntKind.min, IntKind.max, IntKind.signed, IntKind.bits] at this
  omega
 have b1 : bytesOK code := hb code hs.1.2
 have b2 : bytesOK more := hb more hs.2.2
 obtain ⟨b, hbig⟩ : ∃ b, F117 (code, more) = some b := by
  rw [F117, F117_t, T.run_test]
  split
  ·exact ⟨_, rfl⟩
  ·exact ⟨_, rfl⟩
 obtain ⟨n, k, d1⟩ := F38_some b1
 obtain ⟨okA, all, count, one, a1, a2, a3, hal, hax, hone, hprops⟩ : ∃ (okA : Bool) (all : List (List Dg)) (count : Int) (one : Bool), F70 (n, k) = some (((), okA), all) ∧ F72 (n, k) = some (((), okA), all) ∧ F58 (n, k) = some (count, one) ∧ all.length ≤ 1000000000 ∧ (∀ x ∈ all, x.length ≤ 1000) ∧ (okA = true → one = true) ∧
   (okA = true → ∃ N K : Nat, n = (N : Int) ∧ k = (K : Int) ∧ 3 ≤ N ∧ N ≤ 8 ∧ K + 3 ≤ N ∧ all = cutsK N K ∧ count = ccV N K) := by
  rw [F70_eq, F72_eq, F58_eq]
  unfold acR
  by_cases h : (inB 3 8 n && inB 0 (n - 3) k) = true
  ·rw [if_pos h]
   rw [Bool.and_eq_true] at h
   have hn := inB_iff.1 h.1
   have hk := inB_iff.1 h.2
   obtain ⟨N, rfl⟩ := Int.eq_ofNat_of_zero_le (show 0 ≤ n by omega)
   obtain ⟨K, rfl⟩ := Int.eq_ofNat_of_zero_le (show 0 ≤ k by omega)
   rw [Int.toNat_natCast, Int.toNat_natCast]
   have hc : ccR (N : Int) (K : Int) = (ccV (N : Int) (K : Int), true) := by
    unfold ccR
    rw [if_pos (by rw [inB_iff.2 (by omega), h.2]; rfl)]
   rw [hc]
   have hlen2 : (cutsK N K).length ≤ 1000000000 := by
    have h1 : (lookL K (dgL N) []).length ≤ 2 ^ (dgL N).length := by
     unfold lookL
     split
     ·exact Nat.one_le_two_pow
     ·exact goL_len _ _ _
    have h2 : 2 ^ (dgL N).length ≤ 2 ^ 27 := Nat.pow_le_pow_right (by omega) (dgL_len N (by omega))
    have h27 : (2 : Nat) ^ 27 = 134217728 := by decide
    show (lookL K (dgL N) []).length ≤ _
    omega
   exact ⟨true, _, _, true, rfl, rfl, rfl, hlen2, fun x hx => cut_short (cutsK_cut (by omega) (by omega) (by omega) x hx), fun _ => rfl, fun _ => ⟨N, K, rfl, rfl, by omega, by omega, by omega, rfl, rfl⟩⟩
  ·rw [if_neg h]
   exact ⟨false, [], _, _, rfl, rfl, rfl, by simp, by simp, fun h => by (cases h), fun h => by (cases h)⟩
 have h7 := cc_R7 more n k count okA one all hal hax hone
 have h10 := cc_C10 more n k count okA all hprops
 obtain ⟨n2, k2, d2⟩ := F30_some b2
 obtain ⟨s, d3⟩ := F17_some b2
 have h33 : L0_R33 (more, ((ccR n2 k2).1, ((ccR n2 k2).2, ((ccR n2 k2).1, ((ccR n2 k2).2, (s, ((caR s).1, ((caR s).2, caR s)))))))) = some (more, (s, ((caR s).1, ((caR s).2, false)))) := by
  rw [L0_R33, L0_R33_step, T.run_test, if_neg (by simp), T.run_test, if_neg (by simp), T.run_test, if_neg (by simp), T.run_ret]
  simp
 have h36 := cc_C36 more s
 obtain ⟨p, size, d4, hsize⟩ := F10_some b2
 obtain ⟨q, part, d5, hpart⟩ := F15_some b2
 obtain ⟨eight, first, e1, e2, hfl, hfe⟩ : ∃ (eight : Bool) (first : List Dg), F31 (q, part) = some (((), eight), first) ∧ F32 (q, part) = some (first, eight) ∧ first.length ≤ 1000 ∧ (eight = true → feR q part = some first) := by
  rw [F31_eq q part hpart, F32_eq q part hpart]
  cases hf : feR q part with
  | none => exact ⟨false, [], rfl, rfl, by simp, fun h => by (cases h)⟩
  | some ds => exact ⟨true, ds, rfl, rfl, feR_short hf, fun _ => rfl⟩
 obtain ⟨r, dsr, l, d6, hdsr⟩ := F25_some b2
 obtain ⟨sizes, d7, hsl⟩ := F26_some b2
 obtain ⟨corners, twelve, cut, t1, t2, hcl, h12⟩ : ∃ (corners : Int) (twelve : Bool) (cut : List Dg), F49 sizes = some ((corners, ((), twelve)), cut) ∧ F50 sizes = some ((corners, ((), twelve)), cut) ∧ cut.length ≤ 1000 ∧
   (twelve = true → sizes ≠ [] ∧ (∀ a ∈ sizes, 3 ≤ a ∧ a ≤ 12) ∧ cosL 1 sizes ≤ 11 ∧ corners = cosL 1 sizes + 1 ∧ cut = cosD 1 sizes) := by
  rw [F49_eq sizes hsl, F50_eq sizes hsl]
  unfold coR2
  split
  ·rename_i h
   rw [Bool.and_eq_true, Bool.and_eq_true, decide_eq_true_eq, decide_eq_true_eq] at h
   obtain ⟨⟨g1, g2⟩, g3⟩ := h
   have hall : ∀ a ∈ sizes, 3 ≤ a ∧ a ≤ 12 := fun a ha => inB_iff.1 (List.all_eq_true.1 g2 a ha)
   refine ⟨_, _, _, rfl, rfl, ?_, fun _ => ⟨fun e => by rw [e] at g1; simp at g1, hall, g3, rfl, rfl⟩⟩
   rw [(cosD_spec sizes 1 fun a ha => (hall a ha).1).2.2]
   omega
  ·exact ⟨0, false, [], rfl, rfl, by simp, fun h => by (cases h)⟩
 have h59 := cc_R59 p size (ceR p size).1 (ceR p size).1 q part corners (ceR p size).2 eight (ieR r dsr l).2 (ieR r dsr l).1 twelve first cut sizes hfl hcl
 have h61 := cc_R61 p size q part corners eight twelve first cut sizes
 have h64 := cc_C64 q part corners hpart twelve cut sizes eight first hfe
 have i1 := F47_eq r dsr l (by omega)
 have i2 := F48_eq r dsr l (by omega)
 rw [L0, L0_t, T.run_sub, hbig, Option.bind_some, T.run_test]
 cases b with
 | true => rfl
 | false =>
  rw [if_neg (by simp), T.run_sub, d1, Option.bind_some, T.run_sub, a1, Option.bind_some, T.run_sub, a2, Option.bind_some, T.run_sub, a3, Option.bind_some, T.run_test, if_pos (by simp), T.run_test, if_pos (by simp), T.run_sub, h7, Option.bind_some, T.run_test, if_neg (by simp), T.run_test, if_pos (by simp), T.run_sub, h10, Option.bind_some, T.run_test, if_neg (by simp [Sum.isLeft]), T.run_sub]
  simp only [Sum.getRight?, Option.bind_some]
  rw [T.run_sub, d2, Option.bind_some, T.run_sub, F58_eq, Option.bind_some, T.run_sub, F59_eq, Option.bind_some, T.run_sub, d3, Option.bind_some, T.run_sub, F35_eq, Option.bind_some, T.run_sub, F36_eq, Option.bind_some, T.run_sub, h33, Option.bind_some, T.run_test, if_neg (by simp), T.run_sub, h36, Option.bind_some, T.run_test, if_neg (by simp [Sum.isLeft]), T.run_sub]
  simp only [Sum.getRight?, Option.bind_some]
  rw [T.run_sub, d4, Option.bind_some, T.run_sub, F23_eq p size hsize, Option.bind_some, T.run_sub, F24_eq p size hsize, Option.bind_some, T.run_sub, d5, Option.bind_some, T.run_sub, e1, Option.bind_some, T.run_sub, e2, Option.bind_some, T.run_sub, d6, Option.bind_some, T.run_sub, i1, Option.bind_some, T.run_sub, i2, Option.bind_some, T.run_sub, d7, Option.bind_some, T.run_test, if_pos (by simp), win_all, T.run_sub, t1, Option.bind_some, T.run_test, if_pos (by simp), T.run_sub, t2, Option.bind_some]
  repeat rw [T.run_test, if_pos (by simp)]
  rw [T.run_sub, h59, Option.bind_some, T.run_test, if_neg (by simp)]
  repeat rw [T.run_test, if_pos (by simp)]
  rw [T.run_sub, h61, Option.bind_some, T.run_test, if_neg (by simp)]
  repeat rw [T.run_test, if_pos (by simp)]
  rw [T.run_sub, h64, Option.bind_some, T.run_test, if_neg (by simp [Sum.isLeft]), T.run_sub]
  simp only [Sum.getRight?, Option.bind_some]
  rw [T.run_test]
  cases twelve with
  | false => rfl
  | true =>
   obtain ⟨g1, g2, g3, rfl, rfl⟩ := h12 rfl
   obtain ⟨z1, z2, z3⟩ := cos_cut g1 (fun a ha => (g2 a ha).1) g3
   have hge := cosL_le sizes (fun a ha => (g2 a ha).1) 1
   have hsz := F51_eq (cosL 1 sizes + 1) (cosD 1 sizes) (by omega)
   rw [if_pos z1] at hsz
   have hperm := sortI_perm (szL (cosL 1 sizes + 1).toNat (cosD 1 sizes))
   obtain ⟨_, _, hcd, _⟩ := isCut_iff.1 z1
   have hk3 := (isCut_iff.1 z1).1
   have h70 := cc_R70 (cosD 1 sizes) sizes (sortI (szL (cosL 1 sizes + 1).toNat (cosD 1 sizes))) (by rw [hperm.length_eq, z2]) (by rw [sum_perm_int hperm, z3]) hsl (fun z hz => by have := g2 z hz; omega) (fun z hz => by
    have := szL_mem hcd (by omega) (hperm.mem_iff.1 hz)
    omega)
   have h73 := cc_L73 (cosD 1 sizes) hcl (fun d hd => ((cosD_spec sizes 1 fun a ha => (g2 a ha).1).1 d hd).1) (cosD 1 sizes).length 0 (by omega)
   have h73' : L0_L73 (((), (((cosD 1 sizes).length : Int), (0 : Int))), cosD 1 sizes) = _ := h73
   rw [if_pos (by rfl), T.run_test, if_pos (by simp), win_all, T.run_sub, hsz, Option.bind_some]
   repeat rw [T.run_test, if_pos (by simp)]
   rw [T.run_sub, h70, Option.bind_some, T.run_test, if_neg (by simp), T.run_test, if_pos (by simp), T.run_sub, h73', Option.bind_some]
   rfl
end Go.Proofs.W
