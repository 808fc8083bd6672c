import Derived.Test.YtppalpflejcjeaaGreatQCcIds
set_option linter.unusedVariables false
set_option linter.unusedSimpArgs false
set_option maxRecDepth 100000
set_option maxHeartbeats 4000000
namespace Go.Proofs.W
open Go Go.Gm Go.Proofs
open Go.RowKit Go.Shelf
def upQ (num den : Int) : Int := (num + den - 1) / den
def F117_sh : FSh := ⟨[(.one (.sl (.int .u8) false false)), (.one (.sl (.int .u8) false false))], []⟩
def F117_fo : List FO := [⟨[(.one .sb)], []⟩]
noncomputable def F117_t : (List (Int) × List (Int)) → T Bool := fun (code, more) =>
 (.test (decide ((code.length : Int) > 1048576))
 (.ret true)
 (.ret (decide ((more.length : Int) > (w64 (1048576 - (code.length : Int)))))))
noncomputable def F117 (v) := (F117_t v).run
noncomputable def F117_E : TEnv := E0
theorem F117_Eok : (F117_E).OK := E0ok
noncomputable def F117_told : Nat → Option SealT := fun id => none
theorem F117_ok : FOK Tryz.prog n_F117 F117_sh F117_fo F117 :=
 fn_ok (E := F117_E) (F117_Eok) (told := F117_told) (fl := []) (c := bodyOf fn_F117) (s := F117_sh) (l := F117_fo) (tree := F117_t) fnat_F117 (by kernel_rfl) (by kernel_rfl) (by kernel_rfl) (loopsOK_of (ls := []) (by kernel_rfl) trivial) (fun v => by kernel_rfl)
def F42_sh : FSh := ⟨[(.one (.pf 0 0 0))], [(.rcd 0 [(.sl (.int .u8) false true), (.si .i64), (.si .u64)])]⟩
def F42_fo : List FO := [⟨[(.one (.si .i64))], [(.rcd 0 [(.sl (.int .u8) false true), (.si .i64), (.si .u64)])]⟩]
noncomputable def F42_t : (Unit × (List (Int) × Int × Int)) → T (Int × (List (Int) × Int × Int)) := fun ((), (c_0, c_1, c_2)) =>
 (.test (decide (c_1 < (c_0.length : Int)))
 (.test (decide ((0 ≤ c_1) ∧ (c_1 < (c_0.length : Int))))
 (.sub (c_0[(Int.toNat c_1)]?) fun z0 =>
 (.test (decide ((w64 (c_1 + 1)) ≤ (c_0.length : Int)))
 (.ret ((w64 z0), (c_0, ((w64 (c_1 + 1)), (wu64 ((wu64 ((wu64 (c_2 * 6364136223846793005)) + (wu64 (w64 z0)))) + 1442695040888963407))))))
 (.ret ((w64 (wu64 (((Int.toNat ((Int.rec
 (fun a =>
 (fun a =>
 Nat.casesOn a ((fun x => 0) (2 ^ min (Int.toNat 40) IntKind.u64.bits)) fun n =>
 Int.casesOn (2 ^ min (Int.toNat 40) IntKind.u64.bits) (fun a => (fun m n => Int.ofNat (m / n)) n.succ a)
 fun a => (fun m n => Int.negSucc (m / n.succ)) n a)
 a)
 (fun a =>
 (fun a =>
 Int.casesOn (2 ^ min (Int.toNat 40) IntKind.u64.bits)
 (fun a_1 => Nat.casesOn a_1 ((fun a => 0) a) fun n => (fun m n => Int.negSucc (m / n.succ)) a n) fun a_1 =>
 (fun m n => Int.ofNat (m.succ / n.succ)) a a_1)
 a)
 (IntKind.u64.wrap
 (IntKind.u64.wrap
 (IntKind.u64.wrap (c_2 * Int.ofNat 6364136223846793005) + IntKind.u64.wrap (IntKind.i64.wrap z0)) +
 Int.ofNat 1442695040888963407))) % 18446744073709551616)) &&& 255 : Nat) : Int))), (c_0, ((w64 (c_1 + 1)), (wu64 ((wu64 ((wu64 (c_2 * 6364136223846793005)) + (wu64 (w64 z0)))) + 1442695040888963407))))))))
 .fail)
 (.test (decide ((w64 (c_1 + 1)) ≤ (c_0.length : Int)))
 (.ret ((0 : Int), (c_0, ((w64 (c_1 + 1)), (wu64 ((wu64 ((wu64 (c_2 * 6364136223846793005)) + 0)) + 1442695040888963407))))))
 (.ret ((w64 (wu64 (((Int.toNat ((Int.rec
 (fun a =>
 (fun a =>
 Nat.casesOn a ((fun x => 0) (2 ^ min (Int.toNat 40) IntKind.u64.bits)) fun n =>
 Int.casesOn (2 ^ min (Int.toNat 40) IntKind.u64.bits) (fun a => (fun m n => Int.ofNat (m / n)) n.succ a)
 fun a => (fun m n => Int.negSucc (m / n.succ)) n a)
 a)
 (fun a =>
 (fun a =>
 Int.casesOn (2 ^ min (Int.toNat 40) IntKind.u64.bits)
 (fun a_1 => Nat.casesOn a_1 ((fun a => 0) a) fun n => (fun m n => Int.negSucc (m / n.succ)) a n) fun a_1 =>
 (fun m n => Int.ofNat (m.succ / n.succ)) a a_1)
 a)
 (IntKind.u64.wrap
 (IntKind.u64.wrap (IntKind.u64.wrap (c_2 * Int.ofNat 6364136223846793005) + Int.ofNat 0) +
 Int.ofNat 1442695040888963407))) % 18446744073709551616)) &&& 255 : Nat) : Int))), (c_0, ((w64 (c_1 + 1)), (wu64 ((wu64 ((wu64 (c_2 * 6364136223846793005)) + 0)) + 1442695040888963407))))))))
noncomputable def F42 (v) := (F42_t v).run
noncomputable def F42_E : TEnv := E0
theorem F42_Eok : (F42_E).OK := E0ok
noncomputable def F42_told : Nat → Option SealT := fun id => none
theorem F42_ok : FOK Tryz.prog n_F42 F42_sh F42_fo F42 :=
 fn_ok (E := F42_E) (F42_Eok) (told := F42_told) (fl := []) (c := bodyOf fn_F42) (s := F42_sh) (l := F42_fo) (tree := F42_t) fnat_F42 (by kernel_rfl) (by kernel_rfl) (by kernel_rfl) (loopsOK_of (ls := []) (by kernel_rfl) trivial) (fun v => by kernel_rfl)
def F43_sh : FSh := ⟨[(.one (.pf 0 0 0)), (.one (.si .i64))], [(.rcd 0 [(.sl (.int .u8) false true), (.si .i64), (.si .u64)])]⟩
def F43_fo : List FO := [⟨[(.one (.si .i64))], [(.rcd 0 [(.sl (.int .u8) false true), (.si .i64), (.si .u64)])]⟩]
noncomputable def F43_t : ((Unit × Int) × (List (Int) × Int × Int)) → T (Int × (List (Int) × Int × Int)) := fun (((), n), (c_0, c_1, c_2)) =>
 (.test (decide (n ≤ 1))
 (.ret ((0 : Int), (c_0, (c_1, c_2))))
 (.sub (F42 ((), (c_0, (c_1, c_2)))) fun z0 =>
 (.test (decide (n > 200))
 (.sub (F42 ((), (z0.2.1, (z0.2.2.1, z0.2.2.2)))) fun z1 =>
 (.test (decide (n ≠ 0))
 (.ret ((Int.tmod (w64 ((w64 (z0.1 * 256)) + z1.1)) n), (z1.2.1, (z1.2.2.1, z1.2.2.2))))
 .fail))
 (.test (decide (n ≠ 0))
 (.ret ((Int.tmod z0.1 n), (z0.2.1, (z0.2.2.1, z0.2.2.2))))
 .fail))))
noncomputable def F43 (v) := (F43_t v).run
noncomputable def F43_E : TEnv := (E0.add1 n_F42 F42_sh F42_fo F42)
theorem F43_Eok : (F43_E).OK := (E0ok.add1 F42_ok)
noncomputable def F43_told : Nat → Option SealT := fun id => none
theorem F43_ok : FOK Tryz.prog n_F43 F43_sh F43_fo F43 :=
 fn_ok (E := F43_E) (F43_Eok) (told := F43_told) (fl := []) (c := bodyOf fn_F43) (s := F43_sh) (l := F43_fo) (tree := F43_t) fnat_F43 (by kernel_rfl) (by kernel_rfl) (by kernel_rfl) (loopsOK_of (ls := []) (by kernel_rfl) trivial) (fun v => by kernel_rfl)
def F37_sh : FSh := ⟨[(.one (.pf 0 0 0)), (.one (.sl (.int .i64) false false))], [(.rcd 0 [(.sl (.int .u8) false true), (.si .i64), (.si .u64)])]⟩
def F37_fo : List FO := [⟨[(.one (.si .i64))], [(.rcd 0 [(.sl (.int .u8) false true), (.si .i64), (.si .u64)])]⟩]
noncomputable def F37_t : ((Unit × List (Int)) × (List (Int) × Int × Int)) → T (Int × (List (Int) × Int × Int)) := fun (((), list), (c_0, c_1, c_2)) =>
 (.sub (F43 (((), (list.length : Int)), (c_0, (c_1, c_2)))) fun z0 =>
 (.test (decide ((0 ≤ z0.1) ∧ (z0.1 < (list.length : Int))))
 (.sub (list[(Int.toNat z0.1)]?) fun z1 =>
 (.ret (z1, (z0.2.1, (z0.2.2.1, z0.2.2.2)))))
 .fail))
noncomputable def F37 (v) := (F37_t v).run
noncomputable def F37_E : TEnv := (E0.add1 n_F43 F43_sh F43_fo F43)
theorem F37_Eok : (F37_E).OK := (E0ok.add1 F43_ok)
noncomputable def F37_told : Nat → Option SealT := fun id => none
theorem F37_ok : FOK Tryz.prog n_F37 F37_sh F37_fo F37 :=
 fn_ok (E := F37_E) (F37_Eok) (told := F37_told) (fl := []) (c := bodyOf fn_F37) (s := F37_sh) (l := F37_fo) (tree := F37_t) fnat_F37 (by kernel_rfl) (by kernel_rfl) (by kernel_rfl) (loopsOK_of (ls := []) (by kernel_rfl) trivial) (fun v => by kernel_rfl)
def F52_sh : FSh := ⟨[(.one (.pf 0 0 0)), (.one (.si .i64))], [(.rcd 0 [(.sl (.int .u8) false true), (.si .i64), (.si .u64)])]⟩
def F52_fo : List FO := [⟨[(.one .sb)], [(.rcd 0 [(.sl (.int .u8) false true), (.si .i64), (.si .u64)])]⟩]
noncomputable def F52_t : ((Unit × Int) × (List (Int) × Int × Int)) → T (Bool × (List (Int) × Int × Int)) := fun (((), n), (c_0, c_1, c_2)) =>
 (.sub (F43 (((), n), (c_0, (c_1, c_2)))) fun z0 =>
 (.ret ((z0.1 == 0), (z0.2.1, (z0.2.2.1, z0.2.2.2)))))
noncomputable def F52 (v) := (F52_t v).run
noncomputable def F52_E : TEnv := (E0.add1 n_F43 F43_sh F43_fo F43)
theorem F52_Eok : (F52_E).OK := (E0ok.add1 F43_ok)
noncomputable def F52_told : Nat → Option SealT := fun id => none
theorem F52_ok : FOK Tryz.prog n_F52 F52_sh F52_fo F52 :=
 fn_ok (E := F52_E) (F52_Eok) (told := F52_told) (fl := []) (c := bodyOf fn_F52) (s := F52_sh) (l := F52_fo) (tree := F52_t) fnat_F52 (by kernel_rfl) (by kernel_rfl) (by kernel_rfl) (loopsOK_of (ls := []) (by kernel_rfl) trivial) (fun v => by kernel_rfl)
def curOK (k : Int) (c : List Int × Int × Int) : Prop := (∀ x ∈ c.1, 0 ≤ x ∧ x ≤ 255) ∧ 0 ≤ c.2.1 ∧ c.2.1 ≤ k
theorem curOK.mono {k m : Int} {c : List Int × Int × Int} (h : curOK k c) (hk : k ≤ m) : curOK m c := ⟨h.1, h.2.1, Int.le_trans h.2.2 hk⟩
theorem wu64_id {z : Int} (h1 : 0 ≤ z) (h2 : z ≤ 18446744073709551615) : wu64 z = z := by
 simp [wu64, IntKind.wrap, IntKind.bits, IntKind.signed]; omega
theorem mask_ok (n : Nat) : 0 ≤ w64 (wu64 ((n &&& 255 : Nat) : Int)) ∧ w64 (wu64 ((n &&& 255 : Nat) : Int)) ≤ 255 := by
 have h : n &&& 255 ≤ 255 := Nat.and_le_right
 generalize n &&& 255 = m at h
 rw [wu64_id (by omega) (by omega), w64_id (by omega) (by omega)]
 omega
theorem next_ok {k : Int} {c : List Int × Int × Int} (h : curOK k c) (hk : k < 1000000000000000) : ∃ v c', F42 ((), c) = some (v, c') ∧ (0 ≤ v ∧ v ≤ 255) ∧ curOK (k + 1) c' := by
 obtain ⟨c0, c1, c2⟩ := c
 obtain ⟨h1, h2, h3⟩ := h
 simp only at h1 h2 h3
 have w1 : w64 (c1 + 1) = c1 + 1 := w64_id (by omega) (by omega)
 rw [F42, F42_t]
 by_cases a : c1 < (c0.length : Int)
 ·have hlt : c1.toNat < c0.length := by omega
  have hx := h1 c0[c1.toNat] (List.getElem_mem hlt)
  rw [T.run_test, if_pos (decide_eq_true a), T.run_test, if_pos (decide_eq_true (by omega)), T.run_sub, List.getElem?_eq_getElem hlt, Option.bind_some, T.run_test, if_pos (decide_eq_true (by rw [w1]; omega)), T.run_ret, w1]
  have w2 : w64 c0[c1.toNat] = c0[c1.toNat] := w64_id (by omega) (by omega)
  refine ⟨_, _, rfl, by rw [w2]; exact hx, h1, ?_, ?_⟩
  ·show 0 ≤ c1 + 1; omega
  ·show c1 + 1 ≤ k + 1; omega
 ·rw [T.run_test, if_neg (by rw [decide_eq_true_eq]; exact a), T.run_test, if_neg (by rw [decide_eq_true_eq, w1]; omega), T.run_ret, w1]
  refine ⟨_, _, rfl, mask_ok _, h1, ?_, ?_⟩
  ·show 0 ≤ c1 + 1; omega
  ·show c1 + 1 ≤ k + 1; omega
theorem pick_ok {k : Int} {c : List Int × Int × Int} (n : Int) (h : curOK k c) (hk : k < 100000000000000) : ∃ v c', F43 (((), n), c) = some (v, c') ∧ 0 ≤ v ∧ (1 ≤ n → v < n) ∧ (n ≤ 1 → v = 0) ∧ curOK (k + 2) c' := by
 obtain ⟨c0, c1, c2⟩ := c
 rw [F43, F43_t]
 by_cases a : n ≤ 1
 ·rw [T.run_test, if_pos (decide_eq_true a), T.run_ret]
  exact ⟨0, _, rfl, Int.le_refl _, fun h => by omega, fun _ => rfl, h.mono (by omega)⟩
 ·obtain ⟨v, ⟨d0, d1, d2⟩, e, hv, hc⟩ := next_ok h (by omega)
  rw [T.run_test, if_neg (by rw [decide_eq_true_eq]; exact a), T.run_sub, e, Option.bind_some, T.run_test]
  by_cases b : n > 200
  ·obtain ⟨u, ⟨f0, f1, f2⟩, e2, hu, hc2⟩ := next_ok hc (by omega)
   rw [if_pos (decide_eq_true b), T.run_sub, e2, Option.bind_some, T.run_test, if_pos (decide_eq_true (by omega)), T.run_ret]
   have w : w64 (w64 (v * 256) + u) = v * 256 + u := by rw [w64_id (z := v * 256) (by omega) (by omega), w64_id (by omega) (by omega)]
   refine ⟨_, _, rfl, ?_, fun _ => ?_, fun h => absurd h a, hc2.mono (by omega)⟩
   ·rw [w]; exact Int.tmod_nonneg _ (by omega)
   ·rw [w]; exact Int.tmod_lt_of_pos _ (by omega)
  ·rw [if_neg (by rw [decide_eq_true_eq]; exact b), T.run_test, if_pos (decide_eq_true (by omega)), T.run_ret]
   exact ⟨_, _, rfl, Int.tmod_nonneg _ (by omega), fun _ => Int.tmod_lt_of_pos _ (by omega), fun h => absurd h a, hc.mono (by omega)⟩
theorem among_ok {k : Int} {c : List Int × Int × Int} (l : List Int) (h : curOK k c) (hk : k < 100000000000000) (hl : 1 ≤ l.length) : ∃ v c', F37 (((), l), c) = some (v, c') ∧ v ∈ l ∧ curOK (k + 2) c' := by
 obtain ⟨c0, c1, c2⟩ := c
 obtain ⟨v, ⟨d0, d1, d2⟩, e, h0, h1, _, hc⟩ := pick_ok (l.length : Int) h hk
 have h1 := h1 (by omega)
 have hlt : v.toNat < l.length := by omega
 rw [F37, F37_t, T.run_sub, e, Option.bind_some, T.run_test, if_pos (decide_eq_true (by omega)), T.run_sub, List.getElem?_eq_getElem hlt, Option.bind_some, T.run_ret]
 exact ⟨_, _, rfl, List.getElem_mem hlt, hc⟩
theorem one_ok {k : Int} {c : List Int × Int × Int} (n : Int) (h : curOK k c) (hk : k < 100000000000000) : ∃ v c', F52 (((), n), c) = some (v, c') ∧ curOK (k + 2) c' := by
 obtain ⟨c0, c1, c2⟩ := c
 obtain ⟨v, ⟨d0, d1, d2⟩, e, _, _, _, hc⟩ := pick_ok n h hk
 rw [F52, F52_t, T.run_sub, e, Option.bind_some, T.run_ret]
 exact ⟨_, _, rfl, hc⟩
def bytesOK (code : List Int) : Prop := ∀ x ∈ code, 0 ≤ x ∧ x ≤ 255
theorem cur0 {code : List Int} (h : bytesOK code) : curOK 0 (code, ((0 : Int), (0 : Int))) := ⟨h, Int.le_refl _, Int.le_refl _⟩
def F38_sh : FSh := ⟨[(.one (.sl (.int .u8) false true))], []⟩
def F38_fo : List FO := [⟨[(.one (.si .i64)), (.one (.si .i64))], []⟩]
noncomputable def F38_t : List (Int) → T (Int × Int) := fun code =>
 (.test true
 (.sub (F37 (((), [(3 : Int), (4 : Int), (5 : Int), (6 : Int), (7 : Int), (6 : Int), (8 : Int), (9 : Int)]), (code, ((0 : Int), (0 : Int))))) fun z0 =>
 (.sub (F43 (((), (w64 (z0.1 - 2))), z0.2)) fun z1 =>
 (.sub (F43 (((), (9 : Int)), z1.2)) fun z2 =>
 (.test true
 (.ret (z0.1, (w64 (z1.1 - (w64 (Int.tdiv z2.1 (8 : Int)))))))
 .fail))))
 .fail)
noncomputable def F38 (v) := (F38_t v).run
noncomputable def F38_E : TEnv := ((E0.add1 n_F37 F37_sh F37_fo F37).add1 n_F43 F43_sh F43_fo F43)
theorem F38_Eok : (F38_E).OK := ((E0ok.add1 F37_ok).add1 F43_ok)
noncomputable def F38_told : Nat → Option SealT := fun id => none
theorem F38_ok : FOK Tryz.prog n_F38 F38_sh F38_fo F38 :=
 fn_ok (E := F38_E) (F38_Eok) (told := F38_told) (fl := []) (c := bodyOf fn_F38) (s := F38_sh) (l := F38_fo) (tree := F38_t) fnat_F38 (by kernel_rfl) (by kernel_rfl) (by kernel_rfl) (loopsOK_of (ls := []) (by kernel_rfl) trivial) (fun v => by kernel_rfl)
theorem F38_some {code : List Int} (h : bytesOK code) : ∃ n k, F38 code = some (n, k) := by
 obtain ⟨x, c1, e1, hx, hc1⟩ := among_ok [3, 4, 5, 6, 7, 6, 8, 9] (cur0 h) (by omega) (by simp)
 obtain ⟨y, c2, e2, _, _, _, hc2⟩ := pick_ok (w64 (x - 2)) hc1 (by omega)
 obtain ⟨z, c3, e3, _, _, _, hc3⟩ := pick_ok 9 hc2 (by omega)
 rw [F38, F38_t, T.run_test, if_pos (by rfl), T.run_sub, e1, Option.bind_some, T.run_sub, e2, Option.bind_some, T.run_sub, e3, Option.bind_some, T.run_test, if_pos (by rfl), T.run_ret]
 exact ⟨_, _, rfl⟩
def F77_sh : FSh := ⟨[(.one (.si .i64)), (.one (.si .i64)), (.one (.si .i64))], []⟩
def F77_fo : List FO := [⟨[(.one .sb)], []⟩]
noncomputable def F77_t : (Int × Int × Int) → T Bool := fun (n, low, high) =>
 (.test (decide (n ≥ low))
 (.ret (decide (n ≤ high)))
 (.ret false))
noncomputable def F77 (v) := (F77_t v).run
noncomputable def F77_E : TEnv := E0
theorem F77_Eok : (F77_E).OK := E0ok
noncomputable def F77_told : Nat → Option SealT := fun id => none
theorem F77_ok : FOK Tryz.prog n_F77 F77_sh F77_fo F77 :=
 fn_ok (E := F77_E) (F77_Eok) (told := F77_told) (fl := []) (c := bodyOf fn_F77) (s := F77_sh) (l := F77_fo) (tree := F77_t) fnat_F77 (by kernel_rfl) (by kernel_rfl) (by kernel_rfl) (loopsOK_of (ls := []) (by kernel_rfl) trivial) (fun v => by kernel_rfl)
theorem F77_eq (n low high : Int) : F77 (n, low, high) = some (inB low high n) := by
 simp only [F77, F77_t, T.run, ge_iff_le, decide_eq_true_eq, inB]
 by_cases h : low ≤ n <;> simp [h]
def F39_sh : FSh := ⟨[(.one (.si .i64))], []⟩
def F39_fo : List FO := [⟨[(.one .sb)], []⟩]
noncomputable def F39_t : Int → T Bool := fun n =>
 (.sub (F77 (n, ((3 : Int), (8 : Int)))) fun z0 =>
 (.ret z0))
noncomputable def F39 (v) := (F39_t v).run
noncomputable def F39_E : TEnv := (E0.add1 n_F77 F77_sh F77_fo F77)
theorem F39_Eok : (F39_E).OK := (E0ok.add1 F77_ok)
noncomputable def F39_told : Nat → Option SealT := fun id => none
theorem F39_ok : FOK Tryz.prog n_F39 F39_sh F39_fo F39 :=
 fn_ok (E := F39_E) (F39_Eok) (told := F39_told) (fl := []) (c := bodyOf fn_F39) (s := F39_sh) (l := F39_fo) (tree := F39_t) fnat_F39 (by kernel_rfl) (by kernel_rfl) (by kernel_rfl) (loopsOK_of (ls := []) (by kernel_rfl) trivial) (fun v => by kernel_rfl)
abbrev Dg := Int × Int
def nbB (n i : Nat) : Nat := (i + n - 1) % n
def nbC (n i : Nat) : Nat := (i + 1) % n
def decAt (l : List Int) (p : Nat) : List Int := l.set p (w64 (l.getD p 0 - 1))
def cutL (l : List Int) (i : Nat) : List Int := (decAt (decAt l (nbB l.length i)) (nbC l.length i)).eraseIdx i
def cutD (names : List Int) (i : Nat) : Dg :=
 (min (names.getD (nbB names.length i) 0) (names.getD (nbC names.length i) 0), max (names.getD (nbB names.length i) 0) (names.getD (nbC names.length i) 0))
def ear (l : List Int) : Option Nat := l.findIdx? (fun x => (1 : Int) == x)
def okC (l : List Int) (i : Nat) : Bool := decide (1 ≤ w64 (l.getD (nbB l.length i) 0 - 1) ∧ 1 ≤ w64 (l.getD (nbC l.length i) 0 - 1))
def tri : Nat → List Int → List Int → Option (List Dg)
 | 0, l, _ => if l = [1, 1, 1] then some [] else none
 | k + 1, l, names => match ear l with
  | none => none
  | some i => (tri k (cutL l i) (names.eraseIdx i)).map (cutD names i :: ·)
def triS : Nat → List Int → List Int → Option (List Dg)
 | 0, l, _ => if l = [1, 1, 1] then some [] else none
 | k + 1, l, names => match ear l with
  | none => none
  | some i => if okC l i then (triS k (cutL l i) (names.eraseIdx i)).map (cutD names i :: ·) else none
def cntD (d : Dg) (m : Int) : Int := (if d.1 = m then 1 else 0) + (if d.2 = m then 1 else 0)
def cnt (ds : List Dg) (m : Int) : Int := ds.foldr (fun d s => cntD d m + s) 0
def crossD (d e : Dg) : Bool := (decide (d.1 < e.1) && decide (e.1 < d.2) && decide (d.2 < e.2)) || (decide (e.1 < d.1) && decide (d.1 < e.2) && decide (e.2 < d.2))
def Ends (names : List Int) (d : Dg) : Prop := d.1 ∈ names ∧ d.2 ∈ names ∧ d.1 < d.2 ∧ (∃ m ∈ names, d.1 < m ∧ m < d.2) ∧ (∃ m ∈ names, m < d.1 ∨ d.2 < m)
def Apart (d e : Dg) : Prop := d ≠ e ∧ crossD d e = false
def Good (names : List Int) (ds : List Dg) : Prop := (∀ d ∈ ds, Ends names d) ∧ ds.Pairwise Apart
theorem nb_facts {n i : Nat} (hn : 3 ≤ n) (hi : i < n) : nbB n i < n ∧ nbC n i < n ∧ nbB n i ≠ i ∧ nbC n i ≠ i ∧ nbB n i ≠ nbC n i ∧
  ((i = 0 ∧ nbB n i = n - 1 ∧ nbC n i = 1) ∨ (i = n - 1 ∧ nbB n i = n - 2 ∧ nbC n i = 0) ∨ (0 < i ∧ i < n - 1 ∧ nbB n i = i - 1 ∧ nbC n i = i + 1)) := by
 unfold nbB nbC
 by_cases h0 : i = 0
 ·subst h0
  rw [Nat.mod_eq_of_lt (by omega), Nat.mod_eq_of_lt (by omega)]
  omega
 ·rw [show i + n - 1 = (i - 1) + n by omega, Nat.add_mod_right, Nat.mod_eq_of_lt (by omega)]
  by_cases h1 : i = n - 1
  ·subst h1
   rw [show n - 1 + 1 = n by omega, Nat.mod_self]
   omega
  ·rw [Nat.mod_eq_of_lt (by omega)]
   omega
theorem ear_lt {l : List Int} {i : Nat} (h : ear l = some i) : i < l.length ∧ l[i]? = some 1 := by
 obtain ⟨h1, h2, _⟩ := List.findIdx?_eq_some_iff_getElem.1 h
 refine ⟨h1, ?_⟩
 rw [List.getElem?_eq_getElem h1]
 simp at h2
 rw [← h2]
theorem decAt_length (l : List Int) (p : Nat) : (decAt l p).length = l.length := by simp [decAt]
theorem cutL_length {l : List Int} {i : Nat} (h : i < l.length) : (cutL l i).length = l.length - 1 := by
 unfold cutL
 rw [List.length_eraseIdx, decAt_length, decAt_length, if_pos h]
def cutV (l : List Int) (i p : Nat) : Int := if p = nbB l.length i ∨ p = nbC l.length i then w64 (l.getD p 0 - 1) else l.getD p 0
theorem dec2_get {l : List Int} {i p : Nat} (hn : 3 ≤ l.length) (hi : i < l.length) (hp : p < l.length) :
  (decAt (decAt l (nbB l.length i)) (nbC l.length i))[p]? = some (cutV l i p) := by
 obtain ⟨h1, h2, h3, h4, h5, _⟩ := nb_facts hn hi
 unfold decAt cutV
 by_cases e1 : nbC l.length i = p
 ·subst e1
  rw [List.getElem?_set_self (by simpa using h2), if_pos (.inr rfl)]
  simp only [List.getD_eq_getElem?_getD, List.getElem?_set_ne h5]
 ·rw [List.getElem?_set_ne e1]
  by_cases e2 : nbB l.length i = p
  ·subst e2
   rw [List.getElem?_set_self h1, if_pos (.inl rfl)]
  ·rw [List.getElem?_set_ne e2, if_neg (by omega), List.getD_eq_getElem?_getD, List.getElem?_eq_getElem hp]
   rfl
theorem cutL_get {l : List Int} {i p : Nat} (hn : 3 ≤ l.length) (hi : i < l.length) (hp : p < l.length) (hpi : p ≠ i) :
  (cutL l i)[if p < i then p else p - 1]? = some (cutV l i p) := by
 unfold cutL
 rw [List.getElem?_eraseIdx]
 by_cases h : p < i
 ·simp only [h, if_true]
  exact dec2_get hn hi hp
 ·simp only [h, if_false]
  rw [if_neg (by omega), show p - 1 + 1 = p by omega]
  exact dec2_get hn hi hp
theorem erase_get {X : Type} {names : List X} {i p : Nat} (hpi : p ≠ i) : (names.eraseIdx i)[if p < i then p else p - 1]? = names[p]? := by
 rw [List.getElem?_eraseIdx]
 by_cases h : p < i
 ·simp [h]
 ·simp only [h, if_false]
  rw [if_neg (by omega), show p - 1 + 1 = p by omega]
theorem erase_mem {X : Type} {names : List X} {i : Nat} {m : X} (h : m ∈ names.eraseIdx i) : ∃ p, p ≠ i ∧ names[p]? = some m := by
 obtain ⟨j, hj1, hj2⟩ := List.mem_eraseIdx_iff_getElem?.1 h
 exact ⟨j, hj1, hj2⟩
theorem sorted_get {names : List Int} (hs : names.Pairwise (· < ·)) {p q : Nat} (h : p < q) {a b : Int} (ha : names[p]? = some a) (hb : names[q]? = some b) : a < b := by
 obtain ⟨h1, e1⟩ := List.getElem?_eq_some_iff.1 ha
 obtain ⟨h2, e2⟩ := List.getElem?_eq_some_iff.1 hb
 rw [← e1, ← e2]
 exact List.pairwise_iff_getElem.1 hs p q h1 h2 h
theorem sorted_inj {names : List Int} (hs : names.Pairwise (· < ·)) {p q : Nat} {a : Int} (ha : names[p]? = some a) (hb : names[q]? = some a) : p = q := by
 rcases Nat.lt_trichotomy p q with h | h | h
 ·have := sorted_get hs h ha hb; omega
 ·exact h
 ·have := sorted_get hs h hb ha; omega
theorem getD_some {X : Type} {l : List X} {p : Nat} {a d : X} (h : l[p]? = some a) : l.getD p d = a := by rw [List.getD_eq_getElem?_getD, h]; rfl
theorem cutD_facts {names : List Int} (hs : names.Pairwise (· < ·)) {i : Nat} (hn : 4 ≤ names.length) (hi : i < names.length) :
  Ends names (cutD names i) ∧ (cutD names i).1 ∈ names.eraseIdx i ∧ (cutD names i).2 ∈ names.eraseIdx i ∧
  ((∀ m ∈ names.eraseIdx i, ¬ ((cutD names i).1 < m ∧ m < (cutD names i).2)) ∨ (∀ m ∈ names.eraseIdx i, ¬ (m < (cutD names i).1 ∨ (cutD names i).2 < m))) ∧
  ∀ p m, names[p]? = some m → cntD (cutD names i) m = if p = nbB names.length i ∨ p = nbC names.length i then 1 else 0 := by
 obtain ⟨h1, h2, h3, h4, h5, h6⟩ := nb_facts (by omega : 3 ≤ names.length) hi
 have gb := List.getElem?_eq_getElem h1
 have gc := List.getElem?_eq_getElem h2
 have gi := List.getElem?_eq_getElem hi
 have hmem : ∀ p, p ≠ i → ∀ m, names[p]? = some m → m ∈ names.eraseIdx i := fun p hp m hm => List.mem_eraseIdx_iff_getElem?.2 ⟨p, hp, hm⟩
 have mb := hmem _ h3 _ gb
 have mc := hmem _ h4 _ gc
 have hD : cutD names i = (min names[nbB names.length i] names[nbC names.length i], max names[nbB names.length i] names[nbC names.length i]) := by
  unfold cutD; rw [getD_some gb, getD_some gc]
 have hE : ∀ {m}, m ∈ names.eraseIdx i → ∃ p, p ≠ i ∧ names[p]? = some m := fun h => erase_mem h
 have g0 := List.getElem?_eq_getElem (show 0 < names.length by omega)
 have g1 := List.getElem?_eq_getElem (show 1 < names.length by omega)
 have g2 := List.getElem?_eq_getElem (show 2 < names.length by omega)
 have gl := List.getElem?_eq_getElem (show names.length - 1 < names.length by omega)
 have key : ∀ a b : Int, (names[nbB names.length i] = a ∧ names[nbC names.length i] = b ∨ names[nbB names.length i] = b ∧ names[nbC names.length i] = a) → a < b → (cutD names i) = (a, b) := by
  intro a b h hab
  rw [hD]
  rcases h with ⟨e1, e2⟩ | ⟨e1, e2⟩ <;> rw [e1, e2] <;> simp only [Prod.mk.injEq] <;> constructor <;> omega
 have hcnt : ∀ p m, names[p]? = some m → cntD (cutD names i) m = if p = nbB names.length i ∨ p = nbC names.length i then 1 else 0 := by
  intro p m hm
  have e1 : p = nbB names.length i ↔ names[nbB names.length i] = m := ⟨fun e => by subst e; rw [gb] at hm; exact Option.some.inj hm, fun e => sorted_inj hs hm (by rw [gb, e])⟩
  have e2 : p = nbC names.length i ↔ names[nbC names.length i] = m := ⟨fun e => by subst e; rw [gc] at hm; exact Option.some.inj hm, fun e => sorted_inj hs hm (by rw [gc, e])⟩
  rw [hD]
  unfold cntD
  simp only []
  by_cases c1 : p = nbB names.length i
  ·have c2 : ¬ p = nbC names.length i := by omega
   have d1 := e1.1 c1
   have d2 : ¬ names[nbC names.length i] = m := fun e => c2 (e2.2 e)
   simp only [c1, true_or, if_true]
   split <;> split <;> omega
  ·have d1 : ¬ names[nbB names.length i] = m := fun e => c1 (e1.2 e)
   by_cases c2 : p = nbC names.length i
   ·have d2 := e2.1 c2
    simp only [c2, or_true, if_true]
    split <;> split <;> omega
   ·have d2 : ¬ names[nbC names.length i] = m := fun e => c2 (e2.2 e)
    rw [if_neg (by omega : ¬ (p = nbB names.length i ∨ p = nbC names.length i))]
    split <;> split <;> omega
 rcases h6 with ⟨hi0, hb, hc⟩ | ⟨hi0, hb, hc⟩ | ⟨hi0, hi1, hb, hc⟩
 ·have lt1 := sorted_get hs (show nbC names.length i < nbB names.length i by omega) gc gb
  have e := key _ _ (.inr ⟨rfl, rfl⟩) lt1
  rw [e]
  refine ⟨⟨List.mem_of_getElem? gc, List.mem_of_getElem? gb, lt1, ⟨_, List.mem_of_getElem? g2, sorted_get hs (by omega) gc g2, sorted_get hs (by omega) g2 gb⟩, ⟨_, List.mem_of_getElem? g0, .inl (sorted_get hs (by omega) g0 gc)⟩⟩, mc, mb, .inr ?_, ?_⟩
  ·intro m hm
   obtain ⟨p, hp, hpm⟩ := hE hm
   have := getElem?_lt hpm
   rintro (h | h)
   ·have : ¬ nbC names.length i ≤ p := by
     intro hle
     rcases Nat.lt_or_eq_of_le hle with h' | h'
     ·have := sorted_get hs h' gc hpm; simp only [] at h; omega
     ·subst h'; rw [gc] at hpm; have := Option.some.inj hpm; simp only [] at h; omega
    omega
   ·have : ¬ p ≤ nbB names.length i := by
     intro hle
     rcases Nat.lt_or_eq_of_le hle with h' | h'
     ·have := sorted_get hs h' hpm gb; simp only [] at h; omega
     ·subst h'; rw [gb] at hpm; have := Option.some.inj hpm; simp only [] at h; omega
    omega
  ·rw [← e]; exact hcnt
 ·have lt1 := sorted_get hs (show nbC names.length i < nbB names.length i by omega) gc gb
  have e := key _ _ (.inr ⟨rfl, rfl⟩) lt1
  rw [e]
  refine ⟨⟨List.mem_of_getElem? gc, List.mem_of_getElem? gb, lt1, ⟨_, List.mem_of_getElem? g1, sorted_get hs (by omega) gc g1, sorted_get hs (by omega) g1 gb⟩, ⟨_, List.mem_of_getElem? gl, .inr (sorted_get hs (by omega) gb gl)⟩⟩, mc, mb, .inr ?_, ?_⟩
  ·intro m hm
   obtain ⟨p, hp, hpm⟩ := hE hm
   have := getElem?_lt hpm
   rintro (h | h)
   ·have : ¬ nbC names.length i ≤ p := by
     intro hle
     rcases Nat.lt_or_eq_of_le hle with h' | h'
     ·have := sorted_get hs h' gc hpm; simp only [] at h; omega
     ·subst h'; rw [gc] at hpm; have := Option.some.inj hpm; simp only [] at h; omega
    omega
   ·have : ¬ p ≤ nbB names.length i := by
     intro hle
     rcases Nat.lt_or_eq_of_le hle with h' | h'
     ·have := sorted_get hs h' hpm gb; simp only [] at h; omega
     ·subst h'; rw [gb] at hpm; have := Option.some.inj hpm; simp only [] at h; omega
    omega
  ·rw [← e]; exact hcnt
 ·have lt1 := sorted_get hs (show nbB names.length i < nbC names.length i by omega) gb gc
  have e := key _ _ (.inl ⟨rfl, rfl⟩) lt1
  rw [e]
  refine ⟨⟨List.mem_of_getElem? gb, List.mem_of_getElem? gc, lt1, ⟨_, List.mem_of_getElem? gi, sorted_get hs (by omega) gb gi, sorted_get hs (by omega) gi gc⟩, ?_⟩, mb, mc, .inl ?_, ?_⟩
  ·by_cases hz : 0 < nbB names.length i
   ·exact ⟨_, List.mem_of_getElem? g0, .inl (sorted_get hs hz g0 gb)⟩
   ·exact ⟨_, List.mem_of_getElem? gl, .inr (sorted_get hs (by omega) gc gl)⟩
  ·intro m hm
   obtain ⟨p, hp, hpm⟩ := hE hm
   have := getElem?_lt hpm
   rintro ⟨ha, hb'⟩
   have c1 : nbB names.length i < p := by
    rcases Nat.lt_trichotomy (nbB names.length i) p with h' | h' | h'
    ·exact h'
    ·subst h'; rw [gb] at hpm; have := Option.some.inj hpm; simp only [] at ha; omega
    ·have := sorted_get hs h' hpm gb; simp only [] at ha; omega
   have c2 : p < nbC names.length i := by
    rcases Nat.lt_trichotomy p (nbC names.length i) with h' | h' | h'
    ·exact h'
    ·subst h'; rw [gc] at hpm; have := Option.some.inj hpm; simp only [] at hb'; omega
    ·have := sorted_get hs h' gc hpm; simp only [] at hb'; omega
   omega
  ·rw [← e]; exact hcnt
theorem Ends.mono {names names' : List Int} (h : ∀ m ∈ names', m ∈ names) {d : Dg} (hd : Ends names' d) : Ends names d := by
 obtain ⟨a, b, c, ⟨m, hm, hm'⟩, ⟨q, hq, hq'⟩⟩ := hd
 exact ⟨h _ a, h _ b, c, ⟨m, h _ hm, hm'⟩, ⟨q, h _ hq, hq'⟩⟩
theorem tri_good : ∀ (k : Nat) (l names : List Int) (ds : List Dg), names.Pairwise (· < ·) → l.length = k + 3 → names.length = k + 3 → tri k l names = some ds → ds.length = k ∧ Good names ds
 | 0, l, names, ds, hs, hl, hn, h => by
  unfold tri at h
  split at h
  ·cases h; exact ⟨rfl, by simp, by simp⟩
  ·cases h
 | k + 1, l, names, ds, hs, hl, hn, h => by
  unfold tri at h
  cases he : ear l with
  | none => rw [he] at h; cases h
  | some i =>
   rw [he] at h
   simp only [] at h
   obtain ⟨hi, _⟩ := ear_lt he
   obtain ⟨ds', h1, h2⟩ := Option.map_eq_some_iff.1 h
   subst h2
   have hE : (names.eraseIdx i).length = k + 3 := by rw [List.length_eraseIdx, if_pos (by omega)]; omega
   have hsub : ∀ m ∈ names.eraseIdx i, m ∈ names := fun m hm => List.mem_of_mem_eraseIdx hm
   obtain ⟨g1, g2, g3⟩ := tri_good k (cutL l i) (names.eraseIdx i) ds' (hs.sublist (List.eraseIdx_sublist ..)) (by rw [cutL_length hi]; omega) hE h1
   obtain ⟨f1, f2, f3, f4, f5⟩ := cutD_facts hs (by omega) (show i < names.length by omega)
   refine ⟨by simp [g1], fun d hd => ?_, ?_⟩
   ·rcases List.mem_cons.1 hd with rfl | hd
    ·exact f1
    ·exact (g2 d hd).mono hsub
   ·refine List.pairwise_cons.2 ⟨fun e he' => ?_, g3⟩
    obtain ⟨q1, q2, q3, ⟨m, q4, q5⟩, ⟨m', q6, q7⟩⟩ := g2 e he'
    generalize cutD names i = d at *
    constructor
    ·rintro rfl
     rcases f4 with f4 | f4
     ·exact f4 m q4 q5
     ·exact f4 m' q6 q7
    ·unfold crossD
     rcases f4 with f4 | f4
     ·have a1 := f4 _ q1
      have a2 := f4 _ q2
      simp
      constructor <;> intro h1 h2 <;> omega
     ·have a1 := f4 _ q1
      have a2 := f4 _ q2
      simp
      constructor <;> intro h1 h2 <;> omega
theorem cnt_nn (ds : List Dg) (m : Int) : 0 ≤ cnt ds m ∧ cnt ds m ≤ 2 * ds.length := by
 induction ds with
 | nil => simp [cnt]
 | cons d t ih =>
  have : cnt (d :: t) m = cntD d m + cnt t m := rfl
  rw [this, List.length_cons]
  unfold cntD
  split <;> split <;> omega
theorem cnt_zero (ds : List Dg) (m : Int) (h : ∀ d ∈ ds, d.1 ≠ m ∧ d.2 ≠ m) : cnt ds m = 0 := by
 induction ds with
 | nil => simp [cnt]
 | cons d t ih =>
  have e : cnt (d :: t) m = cntD d m + cnt t m := rfl
  have := h d (by simp)
  rw [e, ih (fun d hd => h d (by simp [hd]))]
  unfold cntD
  rw [if_neg this.1, if_neg this.2]
  rfl
def Cnts (l names : List Int) (ds : List Dg) : Prop := ∀ (p : Nat) (v m : Int), l[p]? = some v → names[p]? = some m → v = 1 + cnt ds m
theorem good_ne {names : List Int} {ds : List Dg} (g : Good names ds) {m : Int} (h : m ∉ names) : cnt ds m = 0 :=
 cnt_zero ds m fun d hd => ⟨fun e => h (e ▸ (g.1 d hd).1), fun e => h (e ▸ (g.1 d hd).2.1)⟩
theorem cut_cnts {k : Nat} {l names : List Int} {i : Nat} {ds : List Dg} (hs : names.Pairwise (· < ·)) (hl : l.length = k + 4) (hn : names.length = k + 4) (hi : ear l = some i) (g : Good (names.eraseIdx i) ds)
  (hw : ∀ p, p < l.length → w64 (l.getD p 0 - 1) = l.getD p 0 - 1) : Cnts (cutL l i) (names.eraseIdx i) ds ↔ Cnts l names (cutD names i :: ds) := by
 obtain ⟨hil, hi1⟩ := ear_lt hi
 obtain ⟨h1, h2, h3, h4, h5, h6⟩ := nb_facts (by omega : 3 ≤ l.length) hil
 obtain ⟨f1, f2, f3, f4, f5⟩ := cutD_facts hs (by omega) (show i < names.length by omega)
 have hcv : ∀ p m, p < l.length → names[p]? = some m → cutV l i p = l.getD p 0 - cntD (cutD names i) m := by
  intro p m hp hm
  rw [f5 p m hm, hn, ← hl]
  unfold cutV
  rw [hw p hp]
  split <;> simp
 constructor
 ·intro h p v m hv hm
  have e : cnt (cutD names i :: ds) m = cntD (cutD names i) m + cnt ds m := rfl
  rw [e]
  have hp := getElem?_lt hv
  by_cases hpi : p = i
  ·subst hpi
   rw [hi1] at hv
   cases hv
   have := f5 p m hm
   rw [hn, ← hl, if_neg (by omega)] at this
   rw [this, good_ne g]
   ·rfl
   ·intro hmem
    obtain ⟨q, hq, hqm⟩ := erase_mem hmem
    exact hq (sorted_inj hs hqm hm)
  ·have := h (if p < i then p else p - 1) (cutV l i p) m (cutL_get (by omega) hil hp hpi) (by rw [erase_get hpi]; exact hm)
   rw [hcv p m hp hm, getD_some hv] at this
   omega
 ·intro h p' v m hv hm
  have hp' := getElem?_lt hv
  rw [cutL_length hil] at hp'
  obtain ⟨p, hpi, hpp, hp⟩ : ∃ p, p ≠ i ∧ (if p < i then p else p - 1) = p' ∧ p < l.length := by
   by_cases hh : p' < i
   ·exact ⟨p', by omega, by rw [if_pos hh], by omega⟩
   ·exact ⟨p' + 1, by omega, by rw [if_neg (by omega)]; omega, by omega⟩
  rw [← hpp] at hv hm
  rw [cutL_get (by omega) hil hp hpi] at hv
  rw [erase_get hpi] at hm
  cases hv
  rw [hcv p m hp hm]
  have := h p (l.getD p 0) m (by rw [List.getElem?_eq_getElem hp, List.getD_eq_getElem?_getD, List.getElem?_eq_getElem hp]; rfl) hm
  have e : cnt (cutD names i :: ds) m = cntD (cutD names i) m + cnt ds m := rfl
  omega
theorem triS_tri : ∀ (k : Nat) (l names : List Int) (ds : List Dg), names.Pairwise (· < ·) → l.length = k + 3 → names.length = k + 3 → (∀ v ∈ l, 1 ≤ v ∧ v ≤ 4611686018427387904) → triS k l names = some ds → tri k l names = some ds ∧ Cnts l names ds
 | 0, l, names, ds, hs, hl, hn, hb, h => by
  unfold triS at h
  refine ⟨by unfold tri; exact h, ?_⟩
  split at h
  ·rename_i e
   cases h
   intro p v m hv hm
   have := List.mem_of_getElem? hv
   rw [e] at this
   simp at this
   rw [this]; rfl
  ·cases h
 | k + 1, l, names, ds, hs, hl, hn, hb, h => by
  unfold triS at h
  cases he : ear l with
  | none => rw [he] at h; cases h
  | some i =>
   rw [he] at h
   simp only [] at h
   split at h
   ·rename_i hok
    obtain ⟨hi, _⟩ := ear_lt he
    obtain ⟨n1, n2, n3, n4, n5, n6⟩ := nb_facts (by omega : 3 ≤ l.length) hi
    obtain ⟨ds', h1, h2⟩ := Option.map_eq_some_iff.1 h
    subst h2
    have hE : (names.eraseIdx i).length = k + 3 := by rw [List.length_eraseIdx, if_pos (by omega)]; omega
    have hgd : ∀ p, p < l.length → 1 ≤ l.getD p 0 ∧ l.getD p 0 ≤ 4611686018427387904 := by
     intro p hp
     rw [List.getD_eq_getElem?_getD, List.getElem?_eq_getElem hp]
     exact hb _ (List.getElem_mem hp)
    have hw : ∀ p, p < l.length → w64 (l.getD p 0 - 1) = l.getD p 0 - 1 := by
     intro p hp
     have := hgd p hp
     exact w64_id (by omega) (by omega)
    have hb' : ∀ v ∈ cutL l i, 1 ≤ v ∧ v ≤ 4611686018427387904 := by
     intro v hv
     obtain ⟨p', hp'⟩ := List.mem_iff_getElem?.1 hv
     have hlt := getElem?_lt hp'
     rw [cutL_length hi] at hlt
     obtain ⟨p, hpi, hpp, hp⟩ : ∃ p, p ≠ i ∧ (if p < i then p else p - 1) = p' ∧ p < l.length := by
      by_cases hh : p' < i
      ·exact ⟨p', by omega, by rw [if_pos hh], by omega⟩
      ·exact ⟨p' + 1, by omega, by rw [if_neg (by omega)]; omega, by omega⟩
     rw [← hpp, cutL_get (by omega) hi hp hpi] at hp'
     cases hp'
     unfold okC at hok
     have hok := of_decide_eq_true hok
     have := hgd p hp
     unfold cutV
     split
     ·rename_i hh
      rcases hh with rfl | rfl
      ·refine ⟨hok.1, ?_⟩
       rw [hw _ hp]; omega
      ·refine ⟨hok.2, ?_⟩
       rw [hw _ hp]; omega
     ·exact this
    obtain ⟨g1, g2⟩ := triS_tri k (cutL l i) (names.eraseIdx i) ds' (hs.sublist (List.eraseIdx_sublist ..)) (by rw [cutL_length hi]; omega) hE hb' h1
    have g := (tri_good k _ _ _ (hs.sublist (List.eraseIdx_sublist ..)) (by rw [cutL_length hi]; omega) hE g1).2
    refine ⟨?_, (cut_cnts hs hl hn he g hw).1 g2⟩
    unfold tri
    rw [he]
    simp only []
    rw [g1]
    rfl
   ·cases h
theorem tri_triS : ∀ (k : Nat) (l names : List Int) (ds : List Dg), names.Pairwise (· < ·) → l.length = k + 3 → names.length = k + 3 → k < 1000000 → tri k l names = some ds → Cnts l names ds → triS k l names = some ds
 | 0, l, names, ds, hs, hl, hn, hk, h, hc => by
  unfold tri at h
  unfold triS
  exact h
 | k + 1, l, names, ds, hs, hl, hn, hk, h, hc => by
  have hlen := (tri_good _ _ _ _ hs hl hn h).1
  unfold tri at h
  unfold triS
  cases he : ear l with
  | none => rw [he] at h; cases h
  | some i =>
   rw [he] at h
   simp only [] at h ⊢
   obtain ⟨hi, _⟩ := ear_lt he
   obtain ⟨n1, n2, n3, n4, n5, n6⟩ := nb_facts (by omega : 3 ≤ l.length) hi
   obtain ⟨ds', h1, h2⟩ := Option.map_eq_some_iff.1 h
   subst h2
   have hE : (names.eraseIdx i).length = k + 3 := by rw [List.length_eraseIdx, if_pos (by omega)]; omega
   have g := (tri_good k _ _ _ (hs.sublist (List.eraseIdx_sublist ..)) (by rw [cutL_length hi]; omega) hE h1).2
   obtain ⟨f1, f2, f3, f4, f5⟩ := cutD_facts hs (by omega) (show i < names.length by omega)
   have hgd : ∀ p (hp : p < l.length), l.getD p 0 = 1 + (cntD (cutD names i) (names[p]'(by omega)) + cnt ds' (names[p]'(by omega))) := by
    intro p hp
    rw [List.getD_eq_getElem?_getD, List.getElem?_eq_getElem hp]
    exact hc p _ _ (List.getElem?_eq_getElem hp) (List.getElem?_eq_getElem (by omega))
   have hw : ∀ p, p < l.length → w64 (l.getD p 0 - 1) = l.getD p 0 - 1 := by
    intro p hp
    have e := hgd p hp
    have c1 := cnt_nn ds' (names[p]'(by omega))
    have c2 : cntD (cutD names i) (names[p]'(by omega)) ≤ 2 ∧ 0 ≤ cntD (cutD names i) (names[p]'(by omega)) := by unfold cntD; split <;> split <;> omega
    rw [List.length_cons] at hlen
    rw [w64_id (by omega) (by omega)]
   have hok : okC l i = true := by
    unfold okC
    refine decide_eq_true ⟨?_, ?_⟩
    ·rw [hw _ n1, hgd _ n1, f5 _ _ (List.getElem?_eq_getElem (by omega)), if_pos (.inl (by rw [hn, hl]))]
     have := cnt_nn ds' (names[nbB l.length i]'(by omega))
     omega
    ·rw [hw _ n2, hgd _ n2, f5 _ _ (List.getElem?_eq_getElem (by omega)), if_pos (.inr (by rw [hn, hl]))]
     have := cnt_nn ds' (names[nbC l.length i]'(by omega))
     omega
   rw [if_pos hok, tri_triS k _ _ _ (hs.sublist (List.eraseIdx_sublist ..)) (by rw [cutL_length hi]; omega) hE (by omega) h1 ((cut_cnts hs hl hn he g hw).2 hc)]
   rfl
def ltD (d e : Dg) : Bool := decide (d.1 < e.1 ∨ d.1 = e.1 ∧ d.2 < e.2)
def leD (d e : Dg) : Bool := !ltD e d
def cmpD (d e : Dg) : Int := if ltD d e then -1 else if ltD e d then 1 else 0
theorem leD_iff {d e : Dg} : leD d e = true ↔ d.1 < e.1 ∨ d.1 = e.1 ∧ d.2 ≤ e.2 := by
 unfold leD ltD; simp; omega
theorem ltD_iff {d e : Dg} : ltD d e = true ↔ d.1 < e.1 ∨ d.1 = e.1 ∧ d.2 < e.2 := by
 unfold ltD; simp
theorem leD_trans {a b c : Dg} (h1 : leD a b = true) (h2 : leD b c = true) : leD a c = true := by
 rw [leD_iff] at *; omega
theorem leD_anti {a b : Dg} (h1 : leD a b = true) (h2 : leD b a = true) : a = b := by
 rw [leD_iff] at *
 exact Prod.ext (by omega) (by omega)
theorem leD_of_lt {a b : Dg} (h : ltD a b = true) : leD a b = true := by
 rw [leD_iff]; rw [ltD_iff] at h; omega
theorem leD_of_not {a b : Dg} (h : ltD a b = false) : leD b a = true := by unfold leD; rw [h]; rfl
def SortedD (l : List Dg) : Prop := l.Pairwise fun a b => leD a b = true
theorem sorted_unique {l m : List Dg} (h1 : SortedD l) (h2 : SortedD m) (hp : l.Perm m) : l = m :=
 List.Perm.eq_of_pairwise (fun a b _ _ h1 h2 => leD_anti h1 h2) h1 h2 hp
def insD (d : Dg) (l : List Dg) : List Dg := l.takeWhile (ltD · d) ++ d :: l.dropWhile (ltD · d)
theorem insD_perm (d : Dg) (l : List Dg) : (insD d l).Perm (d :: l) := by
 unfold insD
 have h := List.perm_middle (a := d) (l₁ := l.takeWhile (ltD · d)) (l₂ := l.dropWhile (ltD · d))
 rwa [List.takeWhile_append_dropWhile] at h
theorem insD_sorted (d : Dg) : ∀ {l : List Dg}, SortedD l → SortedD (insD d l)
 | [], _ => by simp [insD, SortedD]
 | x :: t, h => by
  obtain ⟨h1, h2⟩ := List.pairwise_cons.1 h
  unfold insD
  cases hx : ltD x d with
  | true =>
   rw [List.takeWhile_cons, List.dropWhile_cons]
   simp only [hx, if_true, List.cons_append]
   refine List.pairwise_cons.2 ⟨fun y hy => ?_, insD_sorted d h2⟩
   have : y ∈ d :: t := (insD_perm d t).mem_iff.1 hy
   rcases List.mem_cons.1 this with rfl | hy
   ·exact leD_of_lt hx
   ·exact h1 y hy
  | false =>
   rw [List.takeWhile_cons, List.dropWhile_cons]
   simp only [hx, Bool.false_eq_true, if_false, List.nil_append]
   refine List.pairwise_cons.2 ⟨fun y hy => ?_, h⟩
   rcases List.mem_cons.1 hy with rfl | hy
   ·exact leD_of_not hx
   ·exact leD_trans (leD_of_not hx) (h1 y hy)
def sortD (l : List Dg) : List Dg := l.foldl (fun out d => insD d out) []
theorem sortD_go : ∀ (l out : List Dg), SortedD out → SortedD (l.foldl (fun out d => insD d out) out) ∧ (l.foldl (fun out d => insD d out) out).Perm (out ++ l)
 | [], out, h => ⟨h, by simp⟩
 | d :: l, out, h => by
  obtain ⟨h1, h2⟩ := sortD_go l (insD d out) (insD_sorted d h)
  refine ⟨h1, h2.trans ?_⟩
  exact ((insD_perm d out).append_right l).trans (by simpa using (List.perm_middle (a := d) (l₁ := out) (l₂ := l)).symm)
theorem sortD_sorted (l : List Dg) : SortedD (sortD l) := (sortD_go l [] (by simp [SortedD])).1
theorem sortD_perm (l : List Dg) : (sortD l).Perm l := by have h := (sortD_go l [] (by simp [SortedD])).2; rwa [List.nil_append] at h
theorem sortD_length (l : List Dg) : (sortD l).length = l.length := (sortD_perm l).length_eq
def gD (l : List Dg) (p : Nat) : Dg := l.getD p (0, 0)
def swapD (l : List Dg) (j : Nat) : List Dg := (l.set (j + 1) (gD l j)).set j (gD l (j + 1))
def sinkD : Nat → List Dg → List Dg
 | 0, l => l
 | j + 1, l => if ltD (gD l (j + 1)) (gD l j) then sinkD j (swapD l j) else l
theorem gD_eq {l : List Dg} {p : Nat} (h : p < l.length) : gD l p = l[p] := by unfold gD; rw [List.getD_eq_getElem?_getD, List.getElem?_eq_getElem h]; rfl
theorem gD_some {l : List Dg} {p : Nat} (h : p < l.length) : l[p]? = some (gD l p) := by rw [gD_eq h, List.getElem?_eq_getElem h]
theorem swapD_length (l : List Dg) (j : Nat) : (swapD l j).length = l.length := by simp [swapD]
theorem sinkD_length : ∀ (j : Nat) (l : List Dg), (sinkD j l).length = l.length
 | 0, l => rfl
 | j + 1, l => by
  unfold sinkD
  split
  ·rw [sinkD_length, swapD_length]
  ·rfl
theorem swapD_perm {l : List Dg} {j : Nat} (h : j + 1 < l.length) : (swapD l j).Perm l := by
 unfold swapD
 rw [gD_eq h, gD_eq (by omega)]
 exact List.set_set_perm (by omega) (by omega)
theorem sinkD_perm : ∀ {j : Nat} {l : List Dg}, j < l.length → (sinkD j l).Perm l
 | 0, l, _ => .refl _
 | j + 1, l, h => by
  unfold sinkD
  split
  ·exact (sinkD_perm (by rw [swapD_length]; omega)).trans (swapD_perm h)
  ·exact .refl _
theorem swapD_get {l : List Dg} {j p : Nat} (h : j + 1 < l.length) : gD (swapD l j) p = if p = j then gD l (j + 1) else if p = j + 1 then gD l j else gD l p := by
 unfold swapD
 conv => lhs; unfold gD
 simp only [List.getD_eq_getElem?_getD]
 by_cases e1 : p = j
 ·subst e1
  rw [List.getElem?_set_self (by simp; omega), if_pos rfl]; rfl
 ·rw [List.getElem?_set_ne (fun e => e1 e.symm), if_neg e1]
  by_cases e2 : p = j + 1
  ·subst e2
   rw [List.getElem?_set_self h, if_pos rfl]; rfl
  ·rw [List.getElem?_set_ne (fun e => e2 e.symm), if_neg e2]
   unfold gD; rw [List.getD_eq_getElem?_getD]
def SUp (l : List Dg) (i : Nat) : Prop := ∀ p q, p < q → q ≤ i → leD (gD l p) (gD l q) = true
theorem sinkD_up : ∀ (j : Nat) (l : List Dg) (i : Nat), j < l.length → j ≤ i → (∀ p q, p < q → q ≤ i → p ≠ j → q ≠ j → leD (gD l p) (gD l q) = true) → (∀ q, j < q → q ≤ i → leD (gD l j) (gD l q) = true) → SUp (sinkD j l) i
 | 0, l, i, hl, hi, h1, h2 => by
  intro p q hpq hq
  by_cases e : p = 0
  ·subst e; exact h2 q hpq hq
  ·exact h1 p q hpq hq e (by omega)
 | j + 1, l, i, hl, hi, h1, h2 => by
  unfold sinkD
  cases hlt : ltD (gD l (j + 1)) (gD l j) with
  | true =>
   simp only [if_true]
   refine sinkD_up j (swapD l j) i (by rw [swapD_length]; omega) (by omega) (fun p q hpq hq hp hq' => ?_) (fun q hq hqi => ?_)
   ·rw [swapD_get hl, swapD_get hl, if_neg hp, if_neg hq']
    by_cases e1 : p = j + 1
    ·rw [if_pos e1, if_neg (by omega)]
     exact h1 j q (by omega) hq (by omega) (by omega)
    ·rw [if_neg e1]
     by_cases e2 : q = j + 1
     ·rw [if_pos e2]
      exact h1 p j (by omega) (by omega) e1 (by omega)
     ·rw [if_neg e2]
      exact h1 p q hpq hq e1 e2
   ·rw [swapD_get hl, swapD_get hl, if_pos rfl, if_neg (by omega)]
    by_cases e2 : q = j + 1
    ·rw [if_pos e2]; exact leD_of_lt hlt
    ·rw [if_neg e2]; exact h2 q (by omega) hqi
  | false =>
   simp only [Bool.false_eq_true, if_false]
   intro p q hpq hq
   by_cases e1 : p = j + 1
   ·subst e1; exact h2 q hpq hq
   ·by_cases e2 : q = j + 1
    ·subst e2
     have := leD_of_not hlt
     by_cases e3 : p = j
     ·subst e3; exact this
     ·exact leD_trans (h1 p j (by omega) (by omega) e1 (by omega)) this
    ·exact h1 p q hpq hq e1 e2
def isortD : Nat → Nat → List Dg → List Dg
 | 0, _, l => l
 | n + 1, i, l => isortD n (i + 1) (sinkD i l)
theorem isortD_spec : ∀ (n i : Nat) (l : List Dg), 0 < i → i + n = l.length → SUp l (i - 1) → SUp (isortD n i l) (l.length - 1) ∧ (isortD n i l).Perm l
 | 0, i, l, hi, hl, h => by
  refine ⟨?_, .refl _⟩
  rw [← hl]
  exact h
 | n + 1, i, l, hi, hl, h => by
  have hs := sinkD_up i l i (by omega) (Nat.le_refl _) (fun p q hpq hq hp hq' => h p q hpq (by omega)) (fun q h1 h2 => by omega)
  obtain ⟨h1, h2⟩ := isortD_spec n (i + 1) (sinkD i l) (by omega) (by rw [sinkD_length]; omega) (by simpa using hs)
  rw [sinkD_length] at h1
  exact ⟨h1, h2.trans (sinkD_perm (by omega))⟩
theorem isortD_eq (l : List Dg) : isortD (l.length - 1) 1 l = sortD l := by
 by_cases h0 : l.length = 0
 ·have : l = [] := List.eq_nil_of_length_eq_zero h0
  subst this; rfl
 obtain ⟨h1, h2⟩ := isortD_spec (l.length - 1) 1 l (by omega) (by omega) (fun p q h1 h2 => by omega)
 refine sorted_unique ?_ (sortD_sorted l) (h2.trans (sortD_perm l).symm)
 unfold SortedD
 rw [List.pairwise_iff_getElem]
 intro p q hp hq hpq
 have hlen := h2.length_eq
 have := h1 p q hpq (by omega)
 rwa [gD_eq hp, gD_eq hq] at this
theorem take_while_idx (d : Dg) : ∀ (l : List Dg), ∃ k, k ≤ l.length ∧ l.takeWhile (ltD · d) = l.take k ∧ l.dropWhile (ltD · d) = l.drop k ∧ (∀ p, p < k → ltD (gD l p) d = true) ∧ (k < l.length → ltD (gD l k) d = false)
 | [] => ⟨0, by simp, by simp, by simp, by simp, by simp⟩
 | x :: t => by
  cases hx : ltD x d with
  | false => exact ⟨0, by simp, by simp [hx], by simp [hx], by simp, by simp [gD, hx]⟩
  | true =>
   obtain ⟨k, h1, h2, h3, h4, h5⟩ := take_while_idx d t
   refine ⟨k + 1, by simpa using h1, by simp [hx, h2], by simp [hx, h3], fun p hp => ?_, fun hk => ?_⟩
   ·cases p with
    | zero => simpa [gD] using hx
    | succ p => simpa [gD] using h4 p (by omega)
   ·simpa [gD] using h5 (by simpa using hk)
def inDg (n : Int) (d : Dg) : Bool := inB 0 (n - 1) d.1 && inB 0 (n - 1) d.2 && decide (d.2 - d.1 > 1) && !(d.1 == 0 && d.2 == n - 1)
def badT (n : Int) (ds : List Dg) (k : Nat) : Bool := !inDg n (gD ds k) || (decide (0 < k) && !ltD (gD ds (k - 1)) (gD ds k)) || (ds.take k).any (crossD (gD ds k))
def isTri (n : Int) (ds : List Dg) : Bool := inB 3 12 n && decide ((ds.length : Int) = n - 3) && !(List.range ds.length).any (badT n ds)
theorem crossD_comm (d e : Dg) : crossD d e = crossD e d := by
 unfold crossD
 exact Bool.or_comm _ _
def quid (n : Nat) (ds : List Dg) : List Int := (List.range n).map fun (p : Nat) => 1 + cnt ds (p : Int)
theorem cnt_cons (d : Dg) (t : List Dg) (m : Int) : cnt (d :: t) m = cntD d m + cnt t m := rfl
def nameL (n : Nat) : List Int := (List.range n).map fun (k : Nat) => (k : Int)
theorem nameL_length (n : Nat) : (nameL n).length = n := by simp [nameL]
theorem nameL_succ (n : Nat) : nameL (n + 1) = nameL n ++ [(n : Int)] := by simp [nameL, List.range_succ]
theorem nameL_get {n p : Nat} (h : p < n) : (nameL n)[p]? = some (p : Int) := by simp [nameL, h]
theorem nameL_sorted (n : Nat) : (nameL n).Pairwise (· < ·) := by
 rw [List.pairwise_iff_getElem]
 intro i j hi hj hij
 simp [nameL]
 omega
theorem nameL_mem {n : Nat} {m : Int} (h : m ∈ nameL n) : 0 ≤ m ∧ m < n := by
 obtain ⟨p, hp, e⟩ := List.mem_map.1 h
 have := List.mem_range.1 hp
 subst e
 omega
theorem cnts_quid {l : List Int} {ds : List Dg} : Cnts l (nameL l.length) ds ↔ quid l.length ds = l := by
 constructor
 ·intro h
  refine List.ext_getElem (by simp [quid]) fun p hp hp' => ?_
  have := h p l[p] (p : Int) (List.getElem?_eq_getElem hp') (nameL_get hp')
  rw [this]
  simp [quid]
 ·intro h p v m hv hm
  have hp := getElem?_lt hv
  rw [nameL_get hp] at hm
  cases hm
  rw [← h] at hv
  simp only [quid, List.getElem?_map, List.getElem?_range hp, Option.map_some, Option.some.injEq] at hv
  exact hv.symm
def trOf (l : List Int) : Option (List Dg) :=
 if inB 3 12 l.length then
  match tri (l.length - 3) l (nameL l.length) with
  | some ds => if quid l.length ds = l then some (sortD ds) else none
  | none => none
 else none
theorem trOf_spec (l : List Int) (h : l.all (inB 1 12) = true) (hn : inB 3 12 l.length = true) : (triS (l.length - 3) l (nameL l.length)).map sortD = trOf l := by
 rw [inB_iff] at hn
 have hb : ∀ v ∈ l, 1 ≤ v ∧ v ≤ 4611686018427387904 := fun v hv => by
  have := inB_iff.1 (List.all_eq_true.1 h v hv)
  omega
 unfold trOf
 rw [if_pos (inB_iff.2 hn)]
 have hl : l.length = l.length - 3 + 3 := by omega
 cases hS : triS (l.length - 3) l (nameL l.length) with
 | some ds =>
  obtain ⟨g1, g2⟩ := triS_tri _ _ _ _ (nameL_sorted _) hl (by rw [nameL_length]; omega) hb hS
  rw [g1]
  simp only []
  rw [if_pos (cnts_quid.1 g2)]
  rfl
 | none =>
  cases hT : tri (l.length - 3) l (nameL l.length) with
  | none => rfl
  | some ds =>
   simp only []
   split
   ·rename_i hq
    have := tri_triS _ _ _ _ (nameL_sorted _) hl (by rw [nameL_length]; omega) (by omega) hT (cnts_quid.2 hq)
    rw [this] at hS
    cases hS
   ·rfl
theorem cnt_le : ∀ {ds : List Dg} {m : Int}, (∀ d ∈ ds, d.1 < d.2) → cnt ds m ≤ ds.length
 | [], m, h => by simp [cnt]
 | d :: t, m, h => by
  have := cnt_le (ds := t) (m := m) fun d hd => h d (by simp [hd])
  rw [cnt_cons, List.length_cons]
  have q := h d (by simp)
  have : cntD d m ≤ 1 := by unfold cntD; split <;> split <;> omega
  omega
theorem trOf_bad (l : List Int) (h : l.all (inB 1 12) = false) : trOf l = none := by
 unfold trOf
 split
 ·rename_i hn
  rw [inB_iff] at hn
  split
  ·rename_i ds hT
   rw [if_neg]
   intro hq
   have hds := (tri_good _ _ _ _ (nameL_sorted _) (by omega) (by rw [nameL_length]; omega) hT)
   rw [List.all_eq_false] at h
   obtain ⟨v, hv, hb⟩ := h
   rw [← hq] at hv
   obtain ⟨p, hp, e⟩ := List.mem_map.1 hv
   have c1 := cnt_nn ds p
   have c2 : cnt ds p ≤ ds.length := cnt_le fun d hd => (hds.2.1 d hd).2.2.1
   apply hb
   rw [inB_iff, ← e]
   omega
  ·rfl
 ·rfl
def triSW : Nat → List Int → List Int → Option (List Int × List Dg)
 | 0, l, _ => some (l, [])
 | k + 1, l, names => match ear l with
  | none => none
  | some i => if okC l i then (triSW k (cutL l i) (names.eraseIdx i)).map fun r => (r.1, cutD names i :: r.2) else none
theorem triS_W : ∀ (k : Nat) (l names : List Int), triS k l names = (triSW k l names).bind fun r => if r.1 = [1, 1, 1] then some r.2 else none
 | 0, l, names => by simp [triS, triSW]
 | k + 1, l, names => by
  unfold triS triSW
  cases ear l with
  | none => rfl
  | some i =>
   simp only []
   split
   ·rw [triS_W k]
    cases triSW k (cutL l i) (names.eraseIdx i) with
    | none => rfl
    | some r => by_cases h : r.1 = [1, 1, 1] <;> simp [h]
   ·rfl
theorem triSW_len : ∀ (k : Nat) (l names : List Int) (r : List Int × List Dg), l.length = k + 3 → triSW k l names = some r → r.1.length = 3 ∧ r.2.length = k
 | 0, l, names, r, hl, h => by
  unfold triSW at h
  cases h
  exact ⟨hl, rfl⟩
 | k + 1, l, names, r, hl, h => by
  unfold triSW at h
  cases he : ear l with
  | none => rw [he] at h; cases h
  | some i =>
   rw [he] at h
   simp only [] at h
   split at h
   ·obtain ⟨r', h1, h2⟩ := Option.map_eq_some_iff.1 h
    subst h2
    obtain ⟨g1, g2⟩ := triSW_len k _ _ r' (by rw [cutL_length (ear_lt he).1]; omega) h1
    exact ⟨g1, by simp [g2]⟩
   ·cases h
theorem nb_tmod {n i : Nat} (hn : 3 ≤ n) (hn2 : n < 1000000) (hi : i < n) :
  Int.tmod (w64 ((w64 ((i : Int) + (n : Int))) - 1)) (n : Int) = (nbB n i : Int) ∧ Int.tmod (w64 ((i : Int) + 1)) (n : Int) = (nbC n i : Int) := by
 rw [w64_id (z := (i : Int) + n) (by omega) (by omega), w64_id (by omega) (by omega), w64_id (by omega) (by omega)]
 rw [Int.tmod_eq_emod_of_nonneg (by omega), Int.tmod_eq_emod_of_nonneg (by omega)]
 unfold nbB nbC
 rw [show (i : Int) + n - 1 = ((i + n - 1 : Nat) : Int) by omega, show (i : Int) + 1 = ((i + 1 : Nat) : Int) by omega]
 exact ⟨(Int.natCast_emod _ _).symm, (Int.natCast_emod _ _).symm⟩
theorem set_getD {l : List Int} {p : Nat} (h : p < l.length) : l[p]? = some (l.getD p 0) := by rw [List.getD_eq_getElem?_getD, List.getElem?_eq_getElem h]; rfl
theorem take_drop_erase {X : Type} (l : List X) (i : Nat) : l.take i ++ l.drop (i + 1) = l.eraseIdx i := (List.eraseIdx_eq_take_drop_succ l i).symm
def F44_sh : FSh := ⟨[(.one (.si .i64)), (.ag [(.si .i64), (.si .i64)])], []⟩
def F44_fo : List FO := [⟨[(.one .sb)], []⟩]
noncomputable def F44_t : (Int × (Int × Int)) → T Bool := fun (n, (d_0, d_1)) =>
 (.sub (F77 (d_0, ((0 : Int), (w64 (n - 1))))) fun z0 =>
 (.test z0
 (.sub (F77 (d_1, ((0 : Int), (w64 (n - 1))))) fun z1 =>
 (.test z1
 (.test (decide ((w64 (d_1 - d_0)) > 1))
 (.test (d_0 == 0)
 (.ret (! (d_1 == (w64 (n - 1)))))
 (.ret true))
 (.ret false))
 (.ret false)))
 (.ret false)))
noncomputable def F44 (v) := (F44_t v).run
noncomputable def F44_E : TEnv := (E0.add1 n_F77 F77_sh F77_fo F77)
theorem F44_Eok : (F44_E).OK := (E0ok.add1 F77_ok)
noncomputable def F44_told : Nat → Option SealT := fun id => none
theorem F44_ok : FOK Tryz.prog n_F44 F44_sh F44_fo F44 :=
 fn_ok (E := F44_E) (F44_Eok) (told := F44_told) (fl := []) (c := bodyOf fn_F44) (s := F44_sh) (l := F44_fo) (tree := F44_t) fnat_F44 (by kernel_rfl) (by kernel_rfl) (by kernel_rfl) (loopsOK_of (ls := []) (by kernel_rfl) trivial) (fun v => by kernel_rfl)
theorem F44_eq (n : Int) (d : Dg) (h1 : 0 ≤ n) (h2 : n ≤ 1000000) : F44 (n, d) = some (inDg n d) := by
 obtain ⟨a, b⟩ := d
 have w1 : w64 (n - 1) = n - 1 := w64_id (by omega) (by omega)
 simp only [F44, F44_t, T.run, F77_eq, Option.bind_some, w1, inDg]
 cases ha : inB 0 (n - 1) a with
 | false => simp
 | true =>
  cases hb : inB 0 (n - 1) b with
  | false => simp
  | true =>
   rw [inB_iff] at ha hb
   have w2 : w64 (b - a) = b - a := w64_id (by omega) (by omega)
   rw [w2]
   by_cases h4 : a = 0
   ·subst h4
    rw [Int.sub_zero]
    by_cases h5 : b > 1 <;> simp [h5, beq_int]
   ·by_cases h5 : b - a > 1 <;> simp [h5, h4]
def ltL : List Int → List Int → Bool
 | [], [] => false
 | [], _ :: _ => true
 | _ :: _, [] => false
 | x :: a, y :: b => if x < y then true else if y < x then false else ltL a b
def leL (a b : List Int) : Bool := !ltL b a
theorem ltL_irr : ∀ a : List Int, ltL a a = false
 | [] => rfl
 | x :: a => by simp [ltL, ltL_irr a]
theorem ltL_trans : ∀ {a b c : List Int}, ltL a b = true → ltL b c = true → ltL a c = true
 | [], [], c, h, _ => by simp [ltL] at h
 | [], y :: b, [], _, h => by simp [ltL] at h
 | [], y :: b, z :: c, _, _ => rfl
 | x :: a, [], c, h, _ => by simp [ltL] at h
 | x :: a, y :: b, [], _, h => by simp [ltL] at h
 | x :: a, y :: b, z :: c, h1, h2 => by
  unfold ltL at h1 h2 ⊢
  by_cases g1 : x < y
  ·by_cases g2 : y < z
   ·rw [if_pos (by omega)]
   ·rw [if_neg g2] at h2
    by_cases g3 : z < y
    ·rw [if_pos g3] at h2; cases h2
    ·rw [if_pos (by omega)]
  ·rw [if_neg g1] at h1
   by_cases g4 : y < x
   ·rw [if_pos g4] at h1; cases h1
   ·rw [if_neg g4] at h1
    have e : x = y := by omega
    subst e
    by_cases g2 : x < z
    ·rw [if_pos g2]
    ·rw [if_neg g2] at h2 ⊢
     by_cases g3 : z < x
     ·rw [if_pos g3] at h2; cases h2
     ·rw [if_neg g3] at h2 ⊢
      exact ltL_trans h1 h2
theorem ltL_tot : ∀ {a b : List Int}, ltL a b = false → ltL b a = false → a = b
 | [], [], _, _ => rfl
 | [], y :: b, h, _ => by simp [ltL] at h
 | x :: a, [], _, h => by simp [ltL] at h
 | x :: a, y :: b, h1, h2 => by
  unfold ltL at h1 h2
  by_cases g1 : x < y
  ·rw [if_pos g1] at h1; cases h1
  ·rw [if_neg g1] at h1
   by_cases g2 : y < x
   ·rw [if_pos g2] at h2; cases h2
   ·rw [if_neg g2] at h1 h2
    rw [if_neg g1] at h2
    rw [show x = y by omega, ltL_tot h1 h2]
theorem leL_tot (a b : List Int) : (leL a b || leL b a) = true := by
 unfold leL
 cases h1 : ltL b a with
 | false => rfl
 | true =>
  cases h2 : ltL a b with
  | false => rfl
  | true =>
   have := ltL_trans h1 h2
   rw [ltL_irr] at this
   cases this
theorem leL_trans {a b c : List Int} (h1 : leL a b = true) (h2 : leL b c = true) : leL a c = true := by
 unfold leL at h1 h2 ⊢
 simp only [Bool.not_eq_true'] at h1 h2 ⊢
 cases h : ltL c a with
 | false => rfl
 | true =>
  exfalso
  cases h3 : ltL a b with
  | true => have := ltL_trans h h3; rw [this] at h2; cases h2
  | false =>
   have := ltL_tot h3 h1
   subst this
   rw [h] at h2; cases h2
def sortL (l : List (List Int)) : List (List Int) := l.mergeSort leL
theorem sortL_perm (l : List (List Int)) : (sortL l).Perm l := List.mergeSort_perm l leL
theorem sortL_up (l : List (List Int)) : (sortL l).Pairwise fun a b => leL a b = true := List.pairwise_mergeSort (le := leL) (fun _ _ _ => leL_trans) leL_tot l
theorem sortL_unique {l m : List (List Int)} (h : m.Pairwise fun a b => leL a b = true) (hp : m.Perm l) : m = sortL l :=
 List.Perm.eq_of_pairwise (fun a b _ _ h1 h2 => ltL_tot (by simpa [leL] using h2) (by simpa [leL] using h1)) h (sortL_up l) (hp.trans (sortL_perm l).symm)
def freeD (d : Dg) (b : List Dg) : Bool := !b.any (crossD d)
def goL (m : Nat) : List Dg → List Dg → List (List Dg)
 | [], _ => []
 | d :: rest, b => (if freeD d b then (if b.length + 1 = m then [b ++ [d]] else goL m rest (b ++ [d])) else []) ++ goL m rest b
def lookL (m : Nat) (rest b : List Dg) : List (List Dg) := if b.length = m then [b] else goL m rest b
theorem goL_cons (m : Nat) (d : Dg) (rest b : List Dg) : goL m (d :: rest) b = (if freeD d b then lookL m rest (b ++ [d]) else []) ++ goL m rest b := by
 conv => lhs; unfold goL
 unfold lookL
 simp only [List.length_append, List.length_cons, List.length_nil, Nat.zero_add]
def dgL (n : Nat) : List Dg := (List.range n).flatMap fun (a : Nat) => (((List.range n).map fun (b : Nat) => ((a : Int), (b : Int))).filter fun d => inDg n d)
theorem goL_len (m : Nat) : ∀ (rest b : List Dg), (goL m rest b).length ≤ 2 ^ rest.length
 | [], b => by simp [goL]
 | d :: rest, b => by
  have h1 := goL_len m rest b
  have h2 := goL_len m rest (b ++ [d])
  have h3 : 1 ≤ 2 ^ rest.length := Nat.one_le_two_pow
  rw [goL_cons, List.length_append, List.length_cons, Nat.pow_succ]
  unfold lookL
  by_cases hf : freeD d b = true
  ·rw [if_pos hf]
   by_cases hb : (b ++ [d]).length = m
   ·rw [if_pos hb]; simp only [List.length_cons, List.length_nil]; omega
   ·rw [if_neg hb]; omega
  ·rw [if_neg hf]; simp only [List.length_nil]; omega
theorem dgL_len (n : Nat) (h : n ≤ 9) : (dgL n).length ≤ 27 := by
 have : ∀ k, k ≤ 9 → (dgL k).length ≤ 27 := by decide +kernel
 exact this n h
def rowD (n a b : Nat) : List Dg := (((List.range n).drop b).map fun (b : Nat) => ((a : Int), (b : Int))).filter fun d => inDg n d
theorem rowD_end (n a : Nat) : rowD n a n = [] := by
 unfold rowD
 rw [List.drop_of_length_le (by simp)]
 rfl
theorem rowD_step {n a b : Nat} (h : b < n) : rowD n a b = (if inDg n ((a : Int), (b : Int)) then [((a : Int), (b : Int))] else []) ++ rowD n a (b + 1) := by
 unfold rowD
 rw [List.drop_eq_getElem_cons (by simpa using h), List.map_cons, List.filter_cons, List.getElem_range]
 split <;> rfl
theorem inDg_iff {n : Int} {d : Dg} : inDg n d = true ↔ (0 ≤ d.1 ∧ d.1 ≤ n - 1) ∧ (0 ≤ d.2 ∧ d.2 ≤ n - 1) ∧ d.2 - d.1 > 1 ∧ ¬ (d.1 = 0 ∧ d.2 = n - 1) := by
 unfold inDg
 simp [inB_iff, and_assoc]
 intros
 omega
theorem rowD_front (n a : Nat) : ∀ k, k ≤ a + 2 → rowD n a 0 = rowD n a k
 | 0, _ => rfl
 | k + 1, h => by
  rw [rowD_front n a k (by omega)]
  by_cases hk : k < n
  ·rw [rowD_step hk, if_neg, List.nil_append]
   rw [inDg_iff]
   simp only []
   omega
  ·unfold rowD
   rw [List.drop_of_length_le (by simp; omega), List.drop_of_length_le (by simp; omega)]
theorem dgL_rows (n : Nat) : dgL n = (List.range n).flatMap fun a => rowD n a 0 := rfl
theorem rowD_len (n a b : Nat) : (rowD n a b).length ≤ n := by
 unfold rowD
 exact Nat.le_trans (List.length_filter_le ..) (by simp)
def rowsD (n a : Nat) : List Dg := ((List.range n).drop a).flatMap fun a => rowD n a 0
theorem rowsD_end (n : Nat) : rowsD n n = [] := by unfold rowsD; rw [List.drop_of_length_le (by simp)]; rfl
theorem rowsD_step {n a : Nat} (h : a < n) : rowsD n a = rowD n a 0 ++ rowsD n (a + 1) := by
 unfold rowsD
 rw [List.drop_eq_getElem_cons (by simpa using h), List.flatMap_cons, List.getElem_range]
theorem drop_gD {t : List Dg} {i : Nat} (h : i < t.length) : t.drop i = gD t i :: t.drop (i + 1) := by rw [gD_eq h, List.drop_eq_getElem_cons h]
theorem look_pow {m : Nat} {t b : List Dg} {i k : Nat} (hm : m = t.length - (i + 1)) : (lookL k (t.drop (i + 1)) b).length ≤ 2 ^ m := by
 unfold lookL
 split
 ·simp only [List.length_cons, List.length_nil]; exact Nat.one_le_two_pow
 ·have := goL_len k (t.drop (i + 1)) b
  rwa [List.length_drop, ← hm] at this
def F34_sh : FSh := ⟨[(.one (.si .i64))], []⟩
def F34_L6_sh : LSh := ⟨(fun ex => match ex with | .norm => [(0, none), (3, none), (4, none), (5, none), (8, none), (9, none)] | .exit i => if i = 2 then [(0, none), (3, none), (8, none), (9, none)] else if i = 1 then [(0, none), (3, none), (8, none), (9, none)] else if i = 0 then [(3, none)] else [] | .ret => [(2, none)]), [(0, (.one (.si .i64))), (3, (.one (.rw 0 0))), (4, (.one (.si .i64))), (5, (.one (.si .i64))), (8, (.one (.si .i64))), (9, (.one (.si .i64)))], [(.row 0 (.pair (.int .i64) (.int .i64)))], [⟨(.exit 2), [(0, (.one (.si .i64))), (3, (.one (.rw 0 0))), (8, (.one (.si .i64))), (9, (.one (.si .i64)))], [(.row 0 (.pair (.int .i64) (.int .i64)))]⟩], [], []⟩
noncomputable def F34_L6_step : ((Int × Unit × Int × Int × Int × Int) × List ((Int × Int))) → T (((Int × Unit × Int × Int × Int × Int) × List ((Int × Int))) ⊕ ((Int × Unit × Int × Int) × List ((Int × Int)))) := fun ((n, (), low, high, t8, t9), out) =>
 (.test (decide (high < n))
 (.sub (F44 (n, (low, high))) fun z0 =>
 (.test z0
 (.test (decide (1 ≤ (List.length (List.set (List.replicate 1 ((0 : Int), (0 : Int))) 0 (low, high)))))
 (.test (decide ((0 + out.length) ≤ out.length))
 (.test (decide ((2 * ((out.length + (List.length (win (List.set (List.replicate 1 ((0 : Int), (0 : Int))) 0 (low, high)) 0 1))) * 17)) ≤ 140737488355328))
 (.test (decide ((0 = 0) ∧ ((out.length + (List.length (win (List.set (List.replicate 1 ((0 : Int), (0 : Int))) 0 (low, high)) 0 1))) = (List.length ((win out 0 out.length) ++ (win (List.set (List.replicate 1 ((0 : Int), (0 : Int))) 0 (low, high)) 0 1))))))
 (.ret (Sum.inl ((n, ((), (low, ((w64 (high + 1)), (t8, t9))))), ((win out 0 out.length) ++ (win (List.set (List.replicate 1 ((0 : Int), (0 : Int))) 0 (low, high)) 0 1)))))
 .fail)
 .fail)
 .fail)
 .fail)
 (.test (decide ((0 = 0) ∧ (out.length = out.length)))
 (.ret (Sum.inl ((n, ((), (low, ((w64 (high + 1)), (t8, t9))))), out)))
 .fail)))
 (.test (decide ((0 = 0) ∧ (out.length = out.length)))
 (.ret (Sum.inr ((n, ((), (t8, t9))), out)))
 .fail))
noncomputable def F34_L6 (v) := loopO (fun v => (F34_L6_step v).run) v
def F34_L3_sh : LSh := ⟨(fun ex => match ex with | .norm => [(0, none), (3, none), (8, none), (9, none)] | .exit i => if i = 0 then [(3, none)] else [] | .ret => [(2, none)]), [(0, (.one (.si .i64))), (3, (.one (.rw 0 0))), (8, (.one (.si .i64))), (9, (.one (.si .i64)))], [(.row 0 (.pair (.int .i64) (.int .i64)))], [⟨(.exit 0), [(3, (.one (.rw 0 0)))], [(.row 0 (.pair (.int .i64) (.int .i64)))]⟩], [], []⟩
noncomputable def F34_L3_step : ((Int × Unit × Int × Int) × List ((Int × Int))) → T (((Int × Unit × Int × Int) × List ((Int × Int))) ⊕ (Unit × List ((Int × Int)))) := fun ((n, (), t8, t9), out) =>
 (.test (decide (t9 < t8))
 (.test (decide ((0 = 0) ∧ (out.length = out.length)))
 (.sub (F34_L6 ((n, ((), (t9, ((w64 (t9 + 1)), (t8, t9))))), out)) fun z0 =>
 (.test (decide ((0 = 0) ∧ (z0.2.length = z0.2.length)))
 (.ret (Sum.inl ((z0.1.1, ((), (z0.1.2.2.1, (w64 (z0.1.2.2.2 + 1))))), z0.2)))
 .fail))
 .fail)
 (.test (decide ((0 = 0) ∧ (out.length = out.length)))
 (.ret (Sum.inr ((), out)))
 .fail))
noncomputable def F34_L3 (v) := loopO (fun v => (F34_L3_step v).run) v
def F34_fo : List FO := [⟨[(.one (.rw 0 0))], [(.row 0 (.pair (.int .i64) (.int .i64)))]⟩]
noncomputable def F34_t : Int → T (Unit × List ((Int × Int))) := fun n =>
 (.test true
 (.sub (F34_L3 ((n, ((), (n, (0 : Int)))), (List.replicate 0 ((0 : Int), (0 : Int))))) fun z0 =>
 (.test (decide ((0 = 0) ∧ (z0.2.length = z0.2.length)))
 (.ret ((), z0.2))
 .fail))
 .fail)
noncomputable def F34 (v) := (F34_t v).run
noncomputable def F34_E : TEnv := (E0.add1 n_F44 F44_sh F44_fo F44)
theorem F34_Eok : (F34_E).OK := (E0ok.add1 F44_ok)
noncomputable def F34_told : Nat → Option SealT := fun id => if id = 6 then some (LSh.told F34_L6_sh 0 (F34_L6_step)) else if id = 3 then some (LSh.told F34_L3_sh 0 (F34_L3_step)) else none
theorem F34_L6_ok : ToldOK Tryz.prog 0 (loopAt (bodyOf fn_F34) [0, 0]) (LSh.told F34_L6_sh 0 (F34_L6_step)) :=
 loop_ok (E := F34_E) (F34_Eok) (told := F34_told) (l := F34_L6_sh) (step := F34_L6_step) (loopsOK_of (ls := []) (by kernel_rfl) trivial) (by kernel_rfl) (fun v => by kernel_rfl)
theorem F34_L3_ok : ToldOK Tryz.prog 0 (loopAt (bodyOf fn_F34) [0]) (LSh.told F34_L3_sh 0 (F34_L3_step)) :=
 loop_ok (E := F34_E) (F34_Eok) (told := F34_told) (l := F34_L3_sh) (step := F34_L3_step) (loopsOK_of (ls := [loopAt (bodyOf fn_F34) [0, 0]]) (by kernel_rfl) ⟨.inr ⟨_, by kernel_rfl, F34_L6_ok⟩, trivial⟩) (by kernel_rfl) (fun v => by kernel_rfl)
theorem F34_ok : FOK Tryz.prog n_F34 F34_sh F34_fo F34 :=
 fn_ok (E := F34_E) (F34_Eok) (told := F34_told) (fl := []) (c := bodyOf fn_F34) (s := F34_sh) (l := F34_fo) (tree := F34_t) fnat_F34 (by kernel_rfl) (by kernel_rfl) (by kernel_rfl) (loopsOK_of (ls := [loopAt (bodyOf fn_F34) [0]]) (by kernel_rfl) ⟨.inr ⟨_, by kernel_rfl, F34_L3_ok⟩, trivial⟩) (fun v => by kernel_rfl)
theorem F34_row (n a : Nat) (t8 t9 : Int) (hn : n ≤ 1000) : ∀ (m b : Nat) (out : List Dg), b + m = n → out.length + m ≤ 1000000 →
  F34_L6 (((n : Int), ((), ((a : Int), ((b : Int), (t8, t9))))), out) = some (((n : Int), ((), (t8, t9))), out ++ rowD n a b)
 | 0, b, out, hb, ho => by
  have : b = n := by omega
  subst this
  rw [rowD_end, List.append_nil]
  simp only [F34_L6]
  exact loopO_done (by simp [F34_L6_step, T.run])
 | m + 1, b, out, hb, ho => by
  have c0 : (b : Int) < (n : Int) := by omega
  have w1 : w64 ((b : Int) + 1) = ((b + 1 : Nat) : Int) := by rw [w64_id (by omega) (by omega)]; omega
  have c1 : 2 * ((out.length + 1) * 17) ≤ 140737488355328 := by omega
  have hd := F44_eq (n : Int) ((a : Int), (b : Int)) (by omega) (by omega)
  rw [rowD_step (by omega : b < n)]
  cases hg : inDg n ((a : Int), (b : Int)) with
  | true =>
   have ih := F34_row n a t8 t9 hn m (b + 1) (out ++ [((a : Int), (b : Int))]) (by omega) (by simp; omega)
   simp only [F34_L6] at ih ⊢
   rw [hg] at hd
   have st : (F34_L6_step (((n : Int), ((), ((a : Int), ((b : Int), (t8, t9))))), out)).run = some (.inl (((n : Int), ((), ((a : Int), (((b + 1 : Nat) : Int), (t8, t9))))), out ++ [((a : Int), (b : Int))])) := by
    simp only [F34_L6_step, T.run, c0, hd, decide_true, if_true, Option.bind_some, win_one, win_all, List.length_cons, List.length_nil, Nat.zero_add, c1, w1, List.length_set, List.length_replicate, Nat.le_refl, List.length_append, true_and]
   rw [loopO_next st, ih]
   simp
  | false =>
   have ih := F34_row n a t8 t9 hn m (b + 1) out (by omega) (by omega)
   simp only [F34_L6] at ih ⊢
   rw [hg] at hd
   have st : (F34_L6_step (((n : Int), ((), ((a : Int), ((b : Int), (t8, t9))))), out)).run = some (.inl (((n : Int), ((), ((a : Int), (((b + 1 : Nat) : Int), (t8, t9))))), out)) := by
    simp only [F34_L6_step, T.run, c0, hd, decide_true, if_true, Option.bind_some, Bool.false_eq_true, if_false, w1, true_and]
   rw [loopO_next st, ih]
   simp
theorem F34_rows (n : Nat) (hn : n ≤ 12) : ∀ (m a : Nat) (out : List Dg), a + m = n → out.length ≤ 1000 * a →
  F34_L3 (((n : Int), ((), ((n : Int), (a : Int)))), out) = some ((), out ++ rowsD n a)
 | 0, a, out, ha, ho => by
  have : a = n := by omega
  subst this
  rw [rowsD_end, List.append_nil]
  simp only [F34_L3]
  exact loopO_done (by simp [F34_L3_step, T.run])
 | m + 1, a, out, ha, ho => by
  have c0 : (a : Int) < (n : Int) := by omega
  have w1 : w64 ((a : Int) + 1) = ((a + 1 : Nat) : Int) := by rw [w64_id (by omega) (by omega)]; omega
  have hr := F34_row n a (n : Int) (a : Int) (by omega) (n - (a + 1)) (a + 1) out (by omega) (by omega)
  rw [← rowD_front n a (a + 1) (by omega)] at hr
  have hl := rowD_len n a 0
  have ih := F34_rows n hn m (a + 1) (out ++ rowD n a 0) (by omega) (by rw [List.length_append]; omega)
  rw [rowsD_step (by omega : a < n), ← List.append_assoc]
  simp only [F34_L3] at ih ⊢
  rw [← ih]
  refine loopO_next ?_
  simp only [F34_L3_step, T.run, c0, decide_true, if_true, true_and, w1, hr, Option.bind_some]
theorem F34_eq (n : Nat) (hn : n ≤ 12) : F34 (n : Int) = some ((), dgL n) := by
 have h := F34_rows n hn n 0 [] (by omega) (by simp)
 have e : rowsD n 0 = dgL n := by unfold rowsD; rw [List.drop_zero, dgL_rows]
 rw [e, List.nil_append, Int.natCast_zero] at h
 simp only [F34, F34_t, T.run, List.replicate_zero, h, Option.bind_some]
 simp
def F9_sh : FSh := ⟨[.one (.sl (.pair (.int .i64) (.int .i64)) false false)], []⟩
def F9_fo : List FO := [⟨[.one (.rw 0 0)], [.row 0 (.pair (.int .i64) (.int .i64))]⟩]
def F9 (v : List (Int × Int)) : Option (Unit × List (Int × Int)) := if v.length ≤ maxLen ∧ v.length * 16 ≤ 140737488355328 then some ((), v) else none
def F9_ren : Shelf.Ren := ⟨fun _ => n_F9, fun t => if t = 4 then 4 else if t = 22 then 32 else 52, fun x => x⟩
theorem F9_lay : SlLaysE0.n41 Tryz.prog F9_ren :=
 { mixed := by kernel_rfl, f41 := ⟨"slices.Clone[[]loop.example/g01236/impl.Diagonal,loop.example/g01236/impl.Diagonal]", by kernel_rfl, by kernel_rfl⟩, t4 := by kernel_rfl, a4 := fun w => by kernel_rfl, z4 := fun w => by kernel_rfl, v4 := fun w => by kernel_rfl, t22 := by kernel_rfl, a22 := fun w => by kernel_rfl, z22 := fun w => by kernel_rfl, v22 := fun w => by kernel_rfl }
noncomputable def F9_info : TypeInfo := (Tryz.prog.info? 52).get (by kernel_rfl)
theorem F9_ok : FOK Tryz.prog n_F9 F9_sh F9_fo F9 :=
 clone_ok (e := (.pair (.int .i64) (.int .i64))) ⟨_, fnat_F9, by kernel_rfl, by kernel_rfl⟩ (ρr := F9_ren) rfl F9_lay rfl F9_info (.agg #[.int .i64 0, .int .i64 0]) 16 (by kernel_rfl) (by kernel_rfl) (by kernel_rfl) (by kernel_rfl) (by decide) (by decide) (fun w => by kernel_rfl)
theorem clone_D {ds : List Dg} (hl : ds.length ≤ 1000) : F9 ds = some ((), ds) := by
 unfold F9
 rw [if_pos ⟨by unfold maxLen; omega, by omega⟩]
def chA (n : Int) : Nat → Nat → Int → Int
 | 0, _, out => out
 | m + 1, i, out => chA n m (i + 1) (w64 (Int.tdiv (w64 (out * (w64 (n - (i : Int))))) ((i + 1 : Nat) : Int)))
def catV (s : Int) : Int := w64 (Int.tdiv (chA (2 * s - 4) (s - 2).toNat 0 1) (s - 1))
theorem sorted_ext {l m : List Int} (h1 : l.Pairwise (· < ·)) (h2 : m.Pairwise (· < ·)) (h : ∀ v, v ∈ l ↔ v ∈ m) : l = m := by
 have n1 : l.Nodup := h1.imp fun {a b} h => by omega
 have n2 : m.Nodup := h2.imp fun {a b} h => by omega
 exact List.Perm.eq_of_pairwise (fun a b _ _ g1 g2 => by omega) h1 h2 ((List.perm_ext_iff_of_nodup n1 n2).2 h)
theorem exists_min {α : Type} (f : α → Nat) (p : α → Prop) : ∀ (l : List α), (∃ x ∈ l, p x) → ∃ x ∈ l, p x ∧ ∀ y ∈ l, p y → f x ≤ f y
 | [], h => by obtain ⟨x, hx, _⟩ := h; cases hx
 | a :: l, h => by
  by_cases g : ∃ x ∈ l, p x
  ·obtain ⟨x, hx, px, hm⟩ := exists_min f p l g
   by_cases pa : p a
   ·by_cases c : f a ≤ f x
    ·exact ⟨a, by simp, pa, fun y hy py => by
      rcases List.mem_cons.1 hy with rfl | hy
      ·exact Nat.le_refl _
      ·exact Nat.le_trans c (hm y hy py)⟩
    ·exact ⟨x, by simp [hx], px, fun y hy py => by
      rcases List.mem_cons.1 hy with rfl | hy
      ·omega
      ·exact hm y hy py⟩
   ·exact ⟨x, by simp [hx], px, fun y hy py => by
     rcases List.mem_cons.1 hy with rfl | hy
     ·exact absurd py pa
     ·exact hm y hy py⟩
  ·obtain ⟨x, hx, px⟩ := h
   rcases List.mem_cons.1 hx with rfl | hx
   ·exact ⟨x, by simp, px, fun y hy py => by
     rcases List.mem_cons.1 hy with rfl | hy
     ·exact Nat.le_refl _
     ·exact absurd ⟨y, hy, py⟩ g⟩
   ·exact absurd ⟨x, hx, px⟩ g
def covD (ds : List Dg) (k : Dg) (v : Int) : Bool := ds.any fun d => decide (k.1 ≤ d.1 ∧ d.1 < v ∧ v < d.2 ∧ d.2 ≤ k.2 ∧ d ≠ k)
def pcs (n : Nat) (ds : List Dg) (k : Dg) : List Int := (nameL n).filter fun v => decide (k.1 ≤ v ∧ v ≤ k.2) && !covD ds k v
theorem covD_iff {ds : List Dg} {k : Dg} {v : Int} : covD ds k v = true ↔ ∃ d ∈ ds, k.1 ≤ d.1 ∧ d.1 < v ∧ v < d.2 ∧ d.2 ≤ k.2 ∧ d ≠ k := by
 unfold covD
 rw [List.any_eq_true]
 simp only [decide_eq_true_eq]
theorem nameL_iff {n : Nat} {v : Int} : v ∈ nameL n ↔ 0 ≤ v ∧ v < (n : Int) := by
 constructor
 ·exact nameL_mem
 ·intro h
  exact List.mem_of_getElem? (by rw [nameL_get (p := v.toNat) (by omega)]; rw [Int.toNat_of_nonneg h.1])
theorem pcs_mem {n : Nat} {ds : List Dg} {k : Dg} {v : Int} : v ∈ pcs n ds k ↔ (0 ≤ v ∧ v < (n : Int)) ∧ (k.1 ≤ v ∧ v ≤ k.2) ∧ ∀ d ∈ ds, k.1 ≤ d.1 → d.2 ≤ k.2 → d ≠ k → d.1 < v → v < d.2 → False := by
 unfold pcs
 rw [List.mem_filter, nameL_iff, Bool.and_eq_true, decide_eq_true_eq, Bool.not_eq_true', ← Bool.not_eq_true, covD_iff]
 constructor
 ·rintro ⟨h1, h2, h3⟩
  exact ⟨h1, h2, fun d hd a b c e f => h3 ⟨d, hd, a, e, f, b, c⟩⟩
 ·rintro ⟨h1, h2, h3⟩
  exact ⟨h1, h2, fun ⟨d, hd, a, e, f, b, c⟩ => h3 d hd a b c e f⟩
theorem pcs_sorted (n : Nat) (ds : List Dg) (k : Dg) : (pcs n ds k).Pairwise (· < ·) := (nameL_sorted n).filter _
def wholeD (n : Nat) : Dg := (0, (n : Int) - 1)
def CutD (n : Nat) (ds : List Dg) : Prop := (∀ d ∈ ds, 0 ≤ d.1 ∧ d.1 + 1 < d.2 ∧ d.2 < (n : Int) ∧ d ≠ wholeD n) ∧ ds.Pairwise fun d e => d ≠ e ∧ crossD d e = false
theorem cross_no {d e : Dg} (h : crossD d e = false) : ¬ (d.1 < e.1 ∧ e.1 < d.2 ∧ d.2 < e.2) ∧ ¬ (e.1 < d.1 ∧ d.1 < e.2 ∧ e.2 < d.2) := by
 unfold crossD at h
 simp only [Bool.or_eq_false_iff, Bool.and_eq_false_iff, decide_eq_false_iff_not] at h
 omega
theorem CutD.apart {n : Nat} {ds : List Dg} (h : CutD n ds) {d e : Dg} (hd : d ∈ wholeD n :: ds) (he : e ∈ wholeD n :: ds) : ¬ (d.1 < e.1 ∧ e.1 < d.2 ∧ d.2 < e.2) := by
 have low : ∀ d ∈ wholeD n :: ds, 0 ≤ d.1 ∧ d.2 < (n : Int) := fun d hd => by
  rcases List.mem_cons.1 hd with rfl | hd
  ·simp only [wholeD]; omega
  ·have := h.1 d hd; omega
 rcases List.mem_cons.1 hd with rfl | hd
 ·have := low e he; simp only [wholeD]; omega
 ·rcases List.mem_cons.1 he with rfl | he
  ·have := h.1 d hd; simp only [wholeD]; omega
  ·by_cases e1 : d = e
   ·subst e1; omega
   ·obtain ⟨i, hi, ei⟩ := List.getElem_of_mem hd
    obtain ⟨j, hj, ej⟩ := List.getElem_of_mem he
    have hp := List.pairwise_iff_getElem.1 h.2
    rcases Nat.lt_trichotomy i j with c | c | c
    ·have := hp i j hi hj c
     rw [ei, ej] at this
     exact (cross_no this.2).1
    ·subst c; exact absurd (ei.symm.trans ej) e1
    ·have := hp j i hj hi c
     rw [ei, ej] at this
     exact (cross_no this.2).2
theorem CutD.front {n : Nat} {ds es : List Dg} (h : CutD n (ds ++ es)) : CutD n ds := ⟨fun d hd => h.1 d (by simp [hd]), (List.pairwise_append.1 h.2).1⟩
theorem CutD.nodup {n : Nat} {ds : List Dg} (h : CutD n ds) : (wholeD n :: ds).Nodup := by
 rw [List.nodup_cons]
 exact ⟨fun hm => (h.1 _ hm).2.2.2 rfl, h.2.imp fun {a b} h => h.1⟩
structure MoreD (n : Nat) (ds : List Dg) (d k : Dg) : Prop where
 cut : CutD n (ds ++ [d])
 key : k ∈ wholeD n :: ds
 lo : d.1 ∈ pcs n ds k
 hi : d.2 ∈ pcs n ds k
theorem MoreD.enc {n : Nat} {ds : List Dg} {d k : Dg} (h : MoreD n ds d k) : k.1 ≤ d.1 ∧ d.1 + 1 < d.2 ∧ d.2 ≤ k.2 ∧ d ≠ k := by
 have h1 := (pcs_mem.1 h.lo).2.1
 have h2 := (pcs_mem.1 h.hi).2.1
 have h3 := h.cut.1 d (by simp)
 refine ⟨h1.1, h3.2.1, h2.2, fun e => ?_⟩
 subst e
 rcases List.mem_cons.1 h.key with e | e
 ·exact h3.2.2.2 e
 ·exact ((List.pairwise_append.1 h.cut.2).2.2 d e d (by simp)).1 rfl
theorem MoreD.ap {n : Nat} {ds : List Dg} {d k : Dg} (h : MoreD n ds d k) {e : Dg} (he : e ∈ wholeD n :: ds) : ¬ (d.1 < e.1 ∧ e.1 < d.2 ∧ d.2 < e.2) ∧ ¬ (e.1 < d.1 ∧ d.1 < e.2 ∧ e.2 < d.2) := by
 have he' : e ∈ wholeD n :: (ds ++ [d]) := by
  rcases List.mem_cons.1 he with rfl | he
  ·simp
  ·simp [he]
 exact ⟨h.cut.apart (by simp) he', h.cut.apart he' (by simp)⟩
theorem more_exists {n : Nat} {ds : List Dg} {d : Dg} (h : CutD n (ds ++ [d])) : ∃ k, MoreD n ds d k := by
 have hd := h.1 d (by simp)
 have ap : ∀ e ∈ ds, ¬ (d.1 < e.1 ∧ e.1 < d.2 ∧ d.2 < e.2) ∧ ¬ (e.1 < d.1 ∧ d.1 < e.2 ∧ e.2 < d.2) := fun e he =>
  ⟨h.apart (by simp) (by simp [he]), h.apart (by simp [he]) (by simp)⟩
 obtain ⟨k, hk, ⟨k1, k2⟩, hm⟩ := exists_min (fun k : Dg => (k.2 - k.1).toNat) (fun k => k.1 ≤ d.1 ∧ d.2 ≤ k.2) (wholeD n :: ds) ⟨wholeD n, by simp, by simp only [wholeD]; omega⟩
 have key : ∀ v, v = d.1 ∨ v = d.2 → v ∈ pcs n ds k := fun v hv => by
  rw [pcs_mem]
  refine ⟨by omega, by omega, fun e he h1 h2 h3 h4 h5 => ?_⟩
  have := ap e he
  have hm := hm e (by simp [he]) (by omega)
  have hne : ¬ (e.1 = k.1 ∧ e.2 = k.2) := fun h => h3 (Prod.ext h.1 h.2)
  omega
 exact ⟨k, h, hk, key _ (.inl rfl), key _ (.inr rfl)⟩
theorem more_unique {n : Nat} {ds : List Dg} {d k l : Dg} (h1 : MoreD n ds d k) (h2 : MoreD n ds d l) : k = l := by
 have e1 := h1.enc
 have e2 := h2.enc
 have c := h1.cut.front
 have a1 := c.apart h1.key h2.key
 have a2 := c.apart h2.key h1.key
 have m1 := (pcs_mem.1 h1.lo).2.2
 have m2 := (pcs_mem.1 h1.hi).2.2
 have m3 := (pcs_mem.1 h2.lo).2.2
 have m4 := (pcs_mem.1 h2.hi).2.2
 have low : ∀ k ∈ wholeD n :: ds, ∀ l ∈ wholeD n :: ds, (k.1 ≤ l.1 ∧ l.2 ≤ k.2) → l ≠ k → l ∈ ds := fun k hk l hl hi hne => by
  rcases List.mem_cons.1 hl with rfl | hl
  ·exfalso
   rcases List.mem_cons.1 hk with rfl | hk
   ·exact hne rfl
   ·have := c.1 k hk
    simp only [wholeD] at hi
    exact this.2.2.2 (Prod.ext (by simp only [wholeD]; omega) (by simp only [wholeD]; omega))
  ·exact hl
 apply Classical.byContradiction
 intro hne
 have hne' : ¬ (k.1 = l.1 ∧ k.2 = l.2) := fun h => hne (Prod.ext h.1 h.2)
 have hd1 : ¬ (d.1 = k.1 ∧ d.2 = k.2) := fun h => e1.2.2.2 (Prod.ext h.1 h.2)
 have hd2 : ¬ (d.1 = l.1 ∧ d.2 = l.2) := fun h => e2.2.2.2 (Prod.ext h.1 h.2)
 by_cases g : k.1 ≤ l.1 ∧ l.2 ≤ k.2
 ·have hl := low k h1.key l h2.key g (Ne.symm hne)
  have g1 := m1 l hl g.1 g.2 (Ne.symm hne)
  have g2 := m2 l hl g.1 g.2 (Ne.symm hne)
  by_cases c1 : l.1 < d.1
  ·exact g1 c1 (by omega)
  ·exact g2 (by omega) (by omega)
 ·have g : l.1 ≤ k.1 ∧ k.2 ≤ l.2 := by omega
  have hk := low l h2.key k h1.key g hne
  have g1 := m3 k hk g.1 g.2 hne
  have g2 := m4 k hk g.1 g.2 hne
  by_cases c1 : k.1 < d.1
  ·exact g1 c1 (by omega)
  ·exact g2 (by omega) (by omega)
theorem more_front {n : Nat} {ds : List Dg} {d k : Dg} (h : MoreD n ds d k) : pcs n (ds ++ [d]) k = (pcs n ds k).filter fun v => decide (v ≤ d.1 ∨ d.2 ≤ v) := by
 have e := h.enc
 refine sorted_ext (pcs_sorted ..) ((pcs_sorted ..).filter _) fun v => ?_
 rw [List.mem_filter, pcs_mem, pcs_mem, decide_eq_true_eq]
 constructor
 ·rintro ⟨h1, h2, h3⟩
  refine ⟨⟨h1, h2, fun d hd => h3 d (by simp [hd])⟩, ?_⟩
  have : ¬ (d.1 < v ∧ v < d.2) := fun ⟨x, y⟩ => h3 d (by simp) e.1 e.2.2.1 e.2.2.2 x y
  omega
 ·rintro ⟨⟨h1, h2, h3⟩, h4⟩
  refine ⟨h1, h2, fun f hf => ?_⟩
  rcases List.mem_append.1 hf with hf | hf
  ·exact h3 f hf
  ·rw [List.mem_singleton] at hf
   subst hf
   intro _ _ _ g4 g5
   omega
theorem more_mid {n : Nat} {ds : List Dg} {d k : Dg} (h : MoreD n ds d k) : pcs n (ds ++ [d]) d = (pcs n ds k).filter fun v => decide (d.1 ≤ v ∧ v ≤ d.2) := by
 have e := h.enc
 have m1 := (pcs_mem.1 h.lo).2.2
 have m2 := (pcs_mem.1 h.hi).2.2
 refine sorted_ext (pcs_sorted ..) ((pcs_sorted ..).filter _) fun v => ?_
 rw [List.mem_filter, pcs_mem, pcs_mem, decide_eq_true_eq]
 constructor
 ·rintro ⟨h1, h2, h3⟩
  refine ⟨⟨h1, by omega, fun f hf g1 g2 g3 g4 g5 => ?_⟩, h2⟩
  have := h.ap (e := f) (by simp [hf])
  have n1 : f ≠ k → ¬ (f.1 < d.1 ∧ d.1 < f.2) := fun g ⟨x, y⟩ => m1 f hf (by omega) (by omega) g x y
  have n2 : f ≠ k → ¬ (f.1 < d.2 ∧ d.2 < f.2) := fun g ⟨x, y⟩ => m2 f hf (by omega) (by omega) g x y
  have n1 := n1 g3
  have n2 := n2 g3
  by_cases c : d.1 ≤ f.1 ∧ f.2 ≤ d.2
  ·by_cases c2 : f = d
   ·subst c2
    exact ((List.pairwise_append.1 h.cut.2).2.2 f hf f (by simp)).1 rfl
   ·exact h3 f (by simp [hf]) c.1 c.2 c2 g4 g5
  ·omega
 ·rintro ⟨⟨h1, h2, h3⟩, h4⟩
  refine ⟨h1, h4, fun f hf g1 g2 g3 g4 g5 => ?_⟩
  rcases List.mem_append.1 hf with hf | hf
  ·refine h3 f hf (by omega) (by omega) (fun hk => ?_) g4 g5
   subst hk
   exact g3 (Prod.ext (by omega) (by omega))
  ·rw [List.mem_singleton] at hf
   exact g3 hf
theorem more_else {n : Nat} {ds : List Dg} {d k l : Dg} (h : MoreD n ds d k) (hl : l ∈ wholeD n :: ds) (hne : l ≠ k) : pcs n (ds ++ [d]) l = pcs n ds l := by
 have e := h.enc
 have hd := h.cut.1 d (by simp)
 refine sorted_ext (pcs_sorted ..) (pcs_sorted ..) fun v => ?_
 rw [pcs_mem, pcs_mem]
 constructor
 ·rintro ⟨h1, h2, h3⟩
  exact ⟨h1, h2, fun d hd => h3 d (by simp [hd])⟩
 ·rintro ⟨h1, h2, h3⟩
  refine ⟨h1, h2, fun f hf g1 g2 g3 g4 g5 => ?_⟩
  rcases List.mem_append.1 hf with hf | hf
  ·exact h3 f hf g1 g2 g3 g4 g5
  ·rw [List.mem_singleton] at hf
   subst hf
   apply hne
   refine more_unique ⟨h.cut, hl, pcs_mem.2 ⟨by omega, by omega, fun g hg i1 i2 i3 i4 i5 => ?_⟩, pcs_mem.2 ⟨by omega, by omega, fun g hg i1 i2 i3 i4 i5 => ?_⟩⟩ h
   ·have a := h.ap (e := g) (by simp [hg])
    exact h3 g hg i1 i2 i3 (by omega) (by omega)
   ·have a := h.ap (e := g) (by simp [hg])
    exact h3 g hg i1 i2 i3 (by omega) (by omega)
def splitD (d : Dg) : List (List Int) → List (List Int)
 | [] => []
 | p :: t => if d.1 ∈ p ∧ d.2 ∈ p then p.filter (fun v => decide (v ≤ d.1 ∨ d.2 ≤ v)) :: (t ++ [p.filter fun v => decide (d.1 ≤ v ∧ v ≤ d.2)]) else p :: splitD d t
theorem splitD_at (d : Dg) : ∀ (out : List (List Int)), (∃ p ∈ out, d.1 ∈ p ∧ d.2 ∈ p) → ∃ l p r, out = l ++ p :: r ∧ d.1 ∈ p ∧ d.2 ∈ p ∧ splitD d out = l ++ p.filter (fun v => decide (v ≤ d.1 ∨ d.2 ≤ v)) :: (r ++ [p.filter fun v => decide (d.1 ≤ v ∧ v ≤ d.2)])
 | [], h => by obtain ⟨p, hp, _⟩ := h; cases hp
 | q :: t, h => by
  by_cases c : d.1 ∈ q ∧ d.2 ∈ q
  ·exact ⟨[], q, t, rfl, c.1, c.2, by rw [splitD, if_pos c]; rfl⟩
  ·obtain ⟨p, hp, h1, h2⟩ := h
   have hp : p ∈ t := by
    rcases List.mem_cons.1 hp with rfl | hp
    ·exact absurd ⟨h1, h2⟩ c
    ·exact hp
   obtain ⟨l, p, r, e, i1, i2, e2⟩ := splitD_at d t ⟨p, hp, h1, h2⟩
   exact ⟨q :: l, p, r, by rw [e]; rfl, i1, i2, by rw [splitD, if_neg c, e2]; rfl⟩
theorem split_perm {n : Nat} {ds : List Dg} {d : Dg} (h : CutD n (ds ++ [d])) {out : List (List Int)} (ho : out.Perm ((wholeD n :: ds).map (pcs n ds))) :
  (splitD d out).Perm ((wholeD n :: (ds ++ [d])).map (pcs n (ds ++ [d]))) := by
 obtain ⟨k, hk⟩ := more_exists h
 have hmem : pcs n ds k ∈ out := ho.mem_iff.2 (List.mem_map_of_mem hk.key)
 obtain ⟨l, p, r, e, h1, h2, e2⟩ := splitD_at d out ⟨_, hmem, hk.lo, hk.hi⟩
 have hp : p = pcs n ds k := by
  have : p ∈ (wholeD n :: ds).map (pcs n ds) := ho.mem_iff.1 (by rw [e]; simp)
  obtain ⟨k', hk', rfl⟩ := List.mem_map.1 this
  rw [more_unique ⟨h, hk', h1, h2⟩ hk]
 obtain ⟨m1, m2, em⟩ := List.append_of_mem hk.key
 have nd := h.front.nodup
 rw [em] at nd
 have els : ∀ l ∈ m1 ++ m2, pcs n (ds ++ [d]) l = pcs n ds l := fun l hl => by
  refine more_else hk ?_ ?_
  ·rw [em]; simp only [List.mem_append, List.mem_cons] at hl ⊢; rcases hl with hl | hl <;> simp [hl]
  ·rintro rfl
   have := (List.perm_middle (a := l) (l₁ := m1) (l₂ := m2)).nodup_iff.1 nd
   exact (List.nodup_cons.1 this).1 hl
 have eg : wholeD n :: (ds ++ [d]) = (m1 ++ k :: m2) ++ [d] := by rw [← em]; rfl
 rw [e2, hp, ← more_front hk, ← more_mid hk, eg]
 have ho' : (l ++ r).Perm ((m1 ++ m2).map (pcs n ds)) := by
  rw [e, hp, em] at ho
  rw [List.map_append, List.map_cons] at ho
  have := (List.perm_middle.symm.trans ho).trans List.perm_middle
  rw [List.map_append]
  exact (List.perm_cons _).1 this
 have hmap : (m1 ++ m2).map (pcs n ds) = (m1 ++ m2).map (pcs n (ds ++ [d])) := List.map_congr_left fun l hl => (els l hl).symm
 rw [hmap] at ho'
 have s1 : (l ++ pcs n (ds ++ [d]) k :: (r ++ [pcs n (ds ++ [d]) d])).Perm (pcs n (ds ++ [d]) k :: pcs n (ds ++ [d]) d :: (l ++ r)) := by
  refine List.perm_middle.trans (List.Perm.cons _ ?_)
  rw [← List.append_assoc]
  exact List.perm_append_singleton _ _
 refine s1.trans ?_
 rw [List.map_append, List.map_append, List.map_cons]
 have s2 : (m1.map (pcs n (ds ++ [d])) ++ pcs n (ds ++ [d]) k :: m2.map (pcs n (ds ++ [d])) ++ [d].map (pcs n (ds ++ [d]))).Perm (pcs n (ds ++ [d]) k :: pcs n (ds ++ [d]) d :: (m1 ++ m2).map (pcs n (ds ++ [d]))) := by
  rw [List.append_assoc, List.cons_append]
  refine List.perm_middle.trans (List.Perm.cons _ ?_)
  rw [← List.append_assoc, List.map_append]
  exact List.perm_append_singleton _ _
 exact ((ho'.cons _).cons _).trans s2.symm
def joinD (n : Nat) (ds : List Dg) (a b : Int) : Bool := decide (b - a = 1) || (decide (b - a = (n : Int) - 1) || decide ((a, b) ∈ ds))
theorem joinD_iff {n : Nat} {ds : List Dg} {a b : Int} : joinD n ds a b = true ↔ b - a = 1 ∨ b - a = (n : Int) - 1 ∨ (a, b) ∈ ds := by
 unfold joinD
 simp only [Bool.or_eq_true, decide_eq_true_eq]
theorem key_low {n : Nat} {ds : List Dg} (h : CutD n ds) (hn : 3 ≤ n) {k : Dg} (hk : k ∈ wholeD n :: ds) : 0 ≤ k.1 ∧ k.1 + 1 < k.2 ∧ k.2 < (n : Int) := by
 rcases List.mem_cons.1 hk with rfl | hk
 ·simp only [wholeD]; omega
 ·have := h.1 k hk; omega
theorem key_ends {n : Nat} {ds : List Dg} (h : CutD n ds) (hn : 3 ≤ n) {k : Dg} (hk : k ∈ wholeD n :: ds) : k.1 ∈ pcs n ds k ∧ k.2 ∈ pcs n ds k := by
 have := key_low h hn hk
 constructor
 ·rw [pcs_mem]; exact ⟨by omega, by omega, fun d hd a b c e f => by omega⟩
 ·rw [pcs_mem]; exact ⟨by omega, by omega, fun d hd a b c e f => by omega⟩
theorem next_corner {n : Nat} {ds : List Dg} (h : CutD n ds) (hn : 3 ≤ n) {k : Dg} (hk : k ∈ wholeD n :: ds) {i c : Int} (hi : i ∈ pcs n ds k) (h1 : i < c) (h2 : c ≤ k.2) (hj : joinD n ds i c = true) (hne : (i, c) ≠ k)
  (hm : ∀ c', c < c' → c' ≤ k.2 → (i, c') ≠ k → joinD n ds i c' = false) : c ∈ pcs n ds k ∧ ∀ v, i < v → v < c → v ∉ pcs n ds k := by
 have hlow := key_low h hn hk
 obtain ⟨i1, i2, i3⟩ := pcs_mem.1 hi
 have hin : c ≠ i + 1 → (i, c) ∈ ds := fun hc => by
  rcases joinD_iff.1 hj with g | g | g
  ·omega
  ·exfalso
   rcases List.mem_cons.1 hk with rfl | hk
   ·simp only [wholeD] at *
    exact hne (Prod.ext (by simp only; omega) (by simp only; omega))
   ·have := (h.1 k hk).2.2.2
    exact this (Prod.ext (by simp only [wholeD]; omega) (by simp only [wholeD]; omega))
  ·exact g
 constructor
 ·rw [pcs_mem]
  refine ⟨by omega, by omega, fun e he g1 g2 g3 g4 g5 => ?_⟩
  have u := i3 e he g1 g2 g3
  by_cases c1 : e.1 < i
  ·exact u c1 (by omega)
  ·by_cases c2 : e.1 = i
   ·have := hm e.2 g5 g2 (fun hh => g3 (by rw [← hh, ← c2]))
    rw [← Bool.not_eq_true] at this
    exact this (joinD_iff.2 (.inr (.inr (by rw [← c2]; exact he))))
   ·have := h.apart (d := (i, c)) (e := e) (by simp [hin (by omega)]) (by simp [he])
    simp only at this
    omega
 ·intro v hv1 hv2 hv
  have hd := hin (by omega)
  exact (pcs_mem.1 hv).2.2 (i, c) hd (by simp only; omega) (by simp only; omega) hne hv1 hv2
theorem after_corner {n : Nat} {ds : List Dg} {k : Dg} {i c : Int} (h1 : i < c) (hc : c ∈ pcs n ds k) (hno : ∀ v, i < v → v < c → v ∉ pcs n ds k) :
  ((pcs n ds k).filter fun v => decide (i < v)) = c :: (pcs n ds k).filter fun v => decide (c < v) := by
 refine sorted_ext ((pcs_sorted ..).filter _) ?_ fun v => ?_
 ·rw [List.pairwise_cons]
  exact ⟨fun v hv => by rw [List.mem_filter, decide_eq_true_eq] at hv; exact hv.2, (pcs_sorted ..).filter _⟩
 ·rw [List.mem_filter, List.mem_cons, List.mem_filter, decide_eq_true_eq, decide_eq_true_eq]
  constructor
  ·rintro ⟨g1, g2⟩
   by_cases e : v = c
   ·exact .inl e
   ·by_cases l : v < c
    ·exact absurd g1 (hno v g2 l)
    ·exact .inr ⟨g1, by omega⟩
  ·rintro (rfl | ⟨g1, g2⟩)
   ·exact ⟨hc, h1⟩
   ·exact ⟨g1, by omega⟩
theorem pcs_first {n : Nat} {ds : List Dg} (h : CutD n ds) (hn : 3 ≤ n) {k : Dg} (hk : k ∈ wholeD n :: ds) : pcs n ds k = k.1 :: (pcs n ds k).filter fun v => decide (k.1 < v) := by
 have he := (key_ends h hn hk).1
 refine sorted_ext (pcs_sorted ..) ?_ fun v => ?_
 ·rw [List.pairwise_cons]
  exact ⟨fun v hv => by rw [List.mem_filter, decide_eq_true_eq] at hv; exact hv.2, (pcs_sorted ..).filter _⟩
 ·rw [List.mem_cons, List.mem_filter, decide_eq_true_eq]
  constructor
  ·intro hv
   have := (pcs_mem.1 hv).2.1
   by_cases e : v = k.1
   ·exact .inl e
   ·exact .inr ⟨hv, by omega⟩
  ·rintro (rfl | ⟨g1, _⟩)
   ·exact he
   ·exact g1
theorem pcs_last (n : Nat) (ds : List Dg) (k : Dg) : ((pcs n ds k).filter fun v => decide (k.2 < v)) = [] := by
 rw [List.filter_eq_nil_iff]
 intro v hv
 have := (pcs_mem.1 hv).2.1
 rw [decide_eq_true_eq]; omega
theorem next_exists {n : Nat} {ds : List Dg} {k : Dg} {i : Int} (hw : k.1 + 1 < k.2) (h1 : i < k.2) :
  ∃ c, i < c ∧ c ≤ k.2 ∧ joinD n ds i c = true ∧ (i, c) ≠ k ∧ ∀ c', c < c' → c' ≤ k.2 → (i, c') ≠ k → joinD n ds i c' = false := by
 have key : ∀ (m : Nat) (t : Int), t = i + 1 + (m : Int) → t ≤ k.2 → (∀ c', t < c' → c' ≤ k.2 → (i, c') ≠ k → joinD n ds i c' = false) →
   ∃ c, i < c ∧ c ≤ k.2 ∧ joinD n ds i c = true ∧ (i, c) ≠ k ∧ ∀ c', c < c' → c' ≤ k.2 → (i, c') ≠ k → joinD n ds i c' = false := by
  intro m
  induction m with
  | zero =>
   intro t ht h2 hm
   refine ⟨t, by omega, h2, joinD_iff.2 (.inl (by omega)), fun e => ?_, hm⟩
   rw [← e] at hw
   simp only at hw
   omega
  | succ m ih =>
   intro t ht h2 hm
   by_cases g : joinD n ds i t = true ∧ (i, t) ≠ k
   ·exact ⟨t, by omega, h2, g.1, g.2, hm⟩
   ·refine ih (t - 1) (by omega) (by omega) fun c' hc1 hc2 hc3 => ?_
    by_cases e : c' = t
    ·subst e
     rw [← Bool.not_eq_true]
     exact fun hj => g ⟨hj, hc3⟩
    ·exact hm c' (by omega) hc2 hc3
 exact key (k.2 - i - 1).toNat k.2 (by omega) (by omega) fun c' a b => by omega
theorem pcs_len {n : Nat} {ds : List Dg} (h : CutD n ds) (hn : 3 ≤ n) {k : Dg} (hk : k ∈ wholeD n :: ds) : 3 ≤ (pcs n ds k).length ∧ (pcs n ds k).length ≤ n := by
 have hlow := key_low h hn hk
 have hends := key_ends h hn hk
 obtain ⟨c, c1, c2, c3, c4, c5⟩ := next_exists (n := n) (ds := ds) (k := k) (i := k.1) hlow.2.1 (by omega)
 obtain ⟨g1, g2⟩ := next_corner h hn hk hends.1 c1 c2 c3 c4 c5
 have hc : c < k.2 := by
  apply Classical.byContradiction
  intro hh
  exact c4 (Prod.ext rfl (by simp only; omega))
 constructor
 ·rw [pcs_first h hn hk, after_corner c1 g1 g2]
  have : k.2 ∈ (pcs n ds k).filter fun v => decide (c < v) := List.mem_filter.2 ⟨hends.2, decide_eq_true hc⟩
  have := List.length_pos_of_mem this
  simp only [List.length_cons]
  omega
 ·have := List.length_filter_le (fun v => decide (k.1 ≤ v ∧ v ≤ k.2) && !covD ds k v) (nameL n)
  rw [nameL_length] at this
  exact this
def keysOf (n : Nat) (ds : List Dg) (a : Nat) : List Dg := ((List.range n).filter fun b => decide (a + 1 < b) && joinD n ds (a : Int) (b : Int)).map fun (b : Nat) => ((a : Int), (b : Int))
def specP (n : Nat) (ds : List Dg) : List (List Int) := ((List.range n).flatMap (keysOf n ds)).map (pcs n ds)
theorem keysOf_mem {n : Nat} {ds : List Dg} {a : Nat} {k : Dg} : k ∈ keysOf n ds a ↔ k.1 = (a : Int) ∧ (a : Int) + 1 < k.2 ∧ k.2 < (n : Int) ∧ joinD n ds k.1 k.2 = true := by
 unfold keysOf
 rw [List.mem_map]
 constructor
 ·rintro ⟨b, hb, rfl⟩
  rw [List.mem_filter, List.mem_range, Bool.and_eq_true, decide_eq_true_eq] at hb
  exact ⟨rfl, by simp only; omega, by simp only; omega, hb.2.2⟩
 ·rintro ⟨h1, h2, h3, h4⟩
  refine ⟨k.2.toNat, ?_, Prod.ext h1.symm (by simp only; omega)⟩
  rw [List.mem_filter, List.mem_range, Bool.and_eq_true, decide_eq_true_eq]
  refine ⟨by omega, by omega, ?_⟩
  rw [Int.toNat_of_nonneg (by omega), ← h1]
  exact h4
theorem specP_perm {n : Nat} {ds : List Dg} (h : CutD n ds) (hn : 3 ≤ n) : (specP n ds).Perm ((wholeD n :: ds).map (pcs n ds)) := by
 unfold specP
 refine List.Perm.map _ ((List.perm_ext_iff_of_nodup ?_ h.nodup).2 fun k => ?_)
 ·show List.Pairwise _ _
  rw [List.pairwise_flatMap]
  refine ⟨fun a _ => ?_, ?_⟩
  ·unfold keysOf
   rw [List.pairwise_map]
   refine (List.nodup_range.filter _).imp fun {x y} hxy e => hxy ?_
   have := congrArg Prod.snd e
   simp only at this
   omega
  ·refine List.nodup_range.imp fun {x y} hxy p hp q hq e => hxy ?_
   have h1 := (keysOf_mem.1 hp).1
   have h2 := (keysOf_mem.1 hq).1
   subst e
   omega
 ·rw [List.mem_flatMap]
  constructor
  ·rintro ⟨a, ha, hk⟩
   obtain ⟨h1, h2, h3, h4⟩ := keysOf_mem.1 hk
   rw [List.mem_cons]
   rcases joinD_iff.1 h4 with g | g | g
   ·omega
   ·exact .inl (Prod.ext (by simp only [wholeD]; omega) (by simp only [wholeD]; omega))
   ·exact .inr g
  ·intro hk
   have := key_low h hn hk
   refine ⟨k.1.toNat, List.mem_range.2 (by omega), keysOf_mem.2 ⟨by omega, by omega, by omega, joinD_iff.2 ?_⟩⟩
   rcases List.mem_cons.1 hk with rfl | hk
   ·exact .inr (.inl (by simp only [wholeD]; omega))
   ·exact .inr (.inr hk)
def implP (n : Nat) (ds : List Dg) : List (List Int) := ds.foldl (fun out d => splitD d out) [nameL n]
theorem implP_perm (n : Nat) (hn : 3 ≤ n) (ds : List Dg) (h : CutD n ds) : (implP n ds).Perm ((wholeD n :: ds).map (pcs n ds)) := by
 have key : ∀ (es ds : List Dg) (out : List (List Int)), CutD n (ds ++ es) → out.Perm ((wholeD n :: ds).map (pcs n ds)) → (es.foldl (fun out d => splitD d out) out).Perm ((wholeD n :: (ds ++ es)).map (pcs n (ds ++ es))) := by
  intro es
  induction es with
  | nil => intro ds out _ ho; simpa using ho
  | cons d es ih =>
   intro ds out hc ho
   have e : ds ++ d :: es = (ds ++ [d]) ++ es := by simp
   rw [e] at hc ⊢
   exact ih (ds ++ [d]) (splitD d out) hc (split_perm hc.front ho)
 have := key ds [] [nameL n] (by simpa using h) (by
  have : pcs n [] (wholeD n) = nameL n := by
   unfold pcs covD wholeD
   rw [List.filter_eq_self]
   intro v hv
   have := nameL_mem hv
   simp; omega
  simp [this])
 simpa [implP] using this
theorem pieces_same {n : Nat} {ds : List Dg} (hn : 3 ≤ n) (h : CutD n ds) : (implP n ds).Perm (specP n ds) := (implP_perm n hn ds h).trans (specP_perm h hn).symm
theorem implP_len {n : Nat} {ds : List Dg} (hn : 3 ≤ n) (h : CutD n ds) {p : List Int} (hp : p ∈ implP n ds) : 3 ≤ p.length ∧ p.length ≤ n := by
 obtain ⟨k, hk, rfl⟩ := List.mem_map.1 ((implP_perm n hn ds h).mem_iff.1 hp)
 exact pcs_len h hn hk
theorem implP_count {n : Nat} {ds : List Dg} (hn : 3 ≤ n) (h : CutD n ds) : (implP n ds).length = ds.length + 1 := by
 have := (implP_perm n hn ds h).length_eq
 simpa using this
theorem bad_iff (n : Int) (ds : List Dg) : (!(List.range ds.length).any (badT n ds)) = true ↔ (∀ d ∈ ds, inDg n d = true) ∧ ds.Pairwise (fun d e => ltD d e = true ∧ crossD e d = false) := by
 rw [Bool.not_eq_true', List.any_eq_false]
 simp only [List.mem_range, badT, Bool.or_eq_true, Bool.not_eq_true', Bool.and_eq_true, decide_eq_true_eq, not_or, not_and, Bool.not_eq_false, Bool.not_eq_true]
 have ltT : ∀ {a b c : Dg}, ltD a b = true → ltD b c = true → ltD a c = true := by
  intro a b c h1 h2; rw [ltD_iff] at *; omega
 constructor
 ·intro h
  refine ⟨fun d hd => ?_, ?_⟩
  ·obtain ⟨k, hk, e⟩ := List.getElem_of_mem hd
   have := (h k hk).1.1
   rwa [gD_eq hk, e] at this
  ·have up : ∀ m p, p + m + 1 < ds.length → ltD (gD ds p) (gD ds (p + m + 1)) = true := by
    intro m
    induction m with
    | zero => intro p hp; have := (h (p + 1) hp).1.2 (by omega); simpa using this
    | succ m ih =>
     intro p hp
     have := (h (p + m + 1 + 1) (by omega)).1.2 (by omega)
     rw [show p + m + 1 + 1 - 1 = p + m + 1 by omega] at this
     have e2 := ltT (ih p (by omega)) this
     rwa [show p + (m + 1) + 1 = p + m + 1 + 1 by omega]
   rw [List.pairwise_iff_getElem]
   intro p q hp hq hpq
   have h2' := up (q - p - 1) p (by omega)
   rw [show p + (q - p - 1) + 1 = q by omega, gD_eq hp, gD_eq hq] at h2'
   refine ⟨h2', ?_⟩
   have := (h q hq).2
   rw [List.any_eq_false] at this
   have := this ds[p] (List.mem_take_iff_getElem.2 ⟨p, by omega, rfl⟩)
   rw [gD_eq hq] at this
   simpa using this
 ·rintro ⟨g1, g2⟩ k hk
  rw [List.pairwise_iff_getElem] at g2
  refine ⟨⟨by rw [gD_eq hk]; exact g1 _ (List.getElem_mem hk), fun hk0 => ?_⟩, ?_⟩
  ·rw [gD_eq hk, gD_eq (show k - 1 < ds.length by omega)]
   exact (g2 (k - 1) k (by omega) hk (by omega)).1
  ·rw [List.any_eq_false]
   intro e he
   obtain ⟨p, hp, e'⟩ := List.mem_take_iff_getElem.1 he
   have := (g2 p k (by omega) hk (by omega)).2
   rw [e', ← gD_eq hk] at this
   simpa using this
def isCut (n : Int) (ds : List Dg) : Bool := inB 3 12 n && decide ((ds.length : Int) ≤ n - 3) && !(List.range ds.length).any (badT n ds)
theorem isCut_cut {n : Int} {ds : List Dg} (h : isCut n ds = true) : ∃ k : Nat, n = (k : Int) ∧ 3 ≤ k ∧ k ≤ 12 ∧ ds.length + 3 ≤ k ∧ CutD k ds := by
 unfold isCut at h
 rw [Bool.and_eq_true, Bool.and_eq_true, inB_iff, decide_eq_true_eq, bad_iff] at h
 obtain ⟨⟨h1, h2⟩, h3, h4⟩ := h
 obtain ⟨k, rfl⟩ := Int.eq_ofNat_of_zero_le (show 0 ≤ n by omega)
 refine ⟨k, rfl, by omega, by omega, by omega, fun d hd => ?_, h4.imp fun {d e} hde => ⟨fun he => ?_, ?_⟩⟩
 ·have := h3 d hd
  unfold inDg at this
  simp only [Bool.and_eq_true, inB_iff, decide_eq_true_eq, Bool.not_eq_true'] at this
  obtain ⟨⟨⟨g1, g2⟩, g3⟩, g4⟩ := this
  refine ⟨by omega, by omega, by omega, fun e => ?_⟩
  rw [e] at g4
  simp [wholeD] at g4
 ·subst he
  have := ltD_iff.1 hde.1
  omega
 ·rw [crossD_comm]; exact hde.2
theorem filter_mid (p : List Int) (f : Int → Bool) (i j : Nat) (hij : i ≤ j) (hj : j ≤ p.length) (h1 : ∀ x (h : x < p.length), x < i → f p[x] = false) (h2 : ∀ x (h : x < p.length), i ≤ x → x < j → f p[x] = true) (h3 : ∀ x (h : x < p.length), j ≤ x → f p[x] = false) :
  p.filter f = (p.drop i).take (j - i) := by
 have e : p.take i ++ ((p.drop i).take (j - i) ++ p.drop j) = p := by
  have : (p.drop i).drop (j - i) = p.drop j := by rw [List.drop_drop]; congr 1; omega
  rw [← this, List.take_append_drop, List.take_append_drop]
 have h := congrArg (List.filter f) e
 rw [List.filter_append, List.filter_append, List.filter_eq_nil_iff.2, List.filter_eq_self.2, List.filter_eq_nil_iff.2, List.nil_append, List.append_nil] at h
 ·exact h.symm
 ·intro v hv
  obtain ⟨x, hx, rfl⟩ := List.mem_drop_iff_getElem.1 hv
  rw [h3 (j + x) (by omega) (by omega)]; simp
 ·intro v hv
  obtain ⟨x, hx, rfl⟩ := List.mem_take_iff_getElem.1 hv
  rw [List.getElem_drop]
  rw [List.length_drop] at hx
  exact h2 (i + x) (by omega) (by omega) (by omega)
 ·intro v hv
  obtain ⟨x, hx, rfl⟩ := List.mem_take_iff_getElem.1 hv
  rw [h1 x (by omega) (by omega)]; simp
theorem filter_out (p : List Int) (f : Int → Bool) (i j : Nat) (hij : i ≤ j) (hj : j ≤ p.length) (h1 : ∀ x (h : x < p.length), x < i → f p[x] = true) (h2 : ∀ x (h : x < p.length), i ≤ x → x < j → f p[x] = false) (h3 : ∀ x (h : x < p.length), j ≤ x → f p[x] = true) :
  p.filter f = p.take i ++ p.drop j := by
 have e : p.take i ++ ((p.drop i).take (j - i) ++ p.drop j) = p := by
  have : (p.drop i).drop (j - i) = p.drop j := by rw [List.drop_drop]; congr 1; omega
  rw [← this, List.take_append_drop, List.take_append_drop]
 have h := congrArg (List.filter f) e
 rw [List.filter_append, List.filter_append, List.filter_eq_self.2, List.filter_eq_nil_iff.2, List.filter_eq_self.2, List.nil_append] at h
 ·exact h.symm
 ·intro v hv
  obtain ⟨x, hx, rfl⟩ := List.mem_drop_iff_getElem.1 hv
  exact h3 (j + x) (by omega) (by omega)
 ·intro v hv
  obtain ⟨x, hx, rfl⟩ := List.mem_take_iff_getElem.1 hv
  rw [List.length_drop] at hx
  rw [List.getElem_drop, h2 (i + x) (by omega) (by omega) (by omega)]; simp
 ·intro v hv
  obtain ⟨x, hx, rfl⟩ := List.mem_take_iff_getElem.1 hv
  exact h1 x (by omega) (by omega)
theorem sorted_lt {p : List Int} (hs : p.Pairwise (· < ·)) {i j : Nat} (hi : i < p.length) (hj : j < p.length) : p[i] < p[j] ↔ i < j := by
 have h := List.pairwise_iff_getElem.1 hs
 constructor
 ·intro hlt
  rcases Nat.lt_trichotomy i j with c | c | c
  ·exact c
  ·subst c; omega
  ·have := h j i hj hi c; omega
 ·exact fun c => h i j hi hj c
theorem idxI_no {v : Int} {p : List Int} (h : v ∉ p) : idxI (fun x => v == x) p = -1 := by
 unfold idxI
 have : p.findIdx? (fun x => v == x) = none := by
  rw [List.findIdx?_eq_none_iff]
  intro x hx
  rw [beq_eq_false_iff_ne]
  rintro rfl
  exact h hx
 rw [this]
theorem idxI_yes {v : Int} {p : List Int} (h : v ∈ p) : ∃ i, ∃ hi : i < p.length, p[i] = v ∧ idxI (fun x => v == x) p = (i : Int) := by
 unfold idxI
 cases hf : p.findIdx? (fun x => v == x) with
 | none =>
  rw [List.findIdx?_eq_none_iff] at hf
  have := hf v h
  simp at this
 | some i =>
  obtain ⟨h1, h2, _⟩ := List.findIdx?_eq_some_iff_getElem.1 hf
  exact ⟨i, h1, (eq_of_beq h2).symm, rfl⟩
def F21_sh : FSh := ⟨[(.one (.sl (.int .i64) false false)), (.one (.si .i64))], []⟩
def F21_L2_sh : LSh := ⟨(fun ex => match ex with | .norm => [(0, none), (1, none), (7, none), (8, none)] | .exit i => if i = 0 then [] else [] | .ret => [(4, none)]), [(0, (.one (.sl (.int .i64) false false))), (1, (.one (.si .i64))), (7, (.one (.si .i64))), (8, (.one (.si .i64)))], [], [⟨.ret, [(4, (.one (.si .i64)))], []⟩, ⟨(.exit 0), [], []⟩], [], []⟩
noncomputable def F21_L2_step : (List (Int) × Int × Int × Int) → T ((List (Int) × Int × Int × Int) ⊕ (Int ⊕ Unit)) := fun (s, v, t7, t8) =>
 (.test (decide (t8 < t7))
 (.test (decide ((0 ≤ t8) ∧ (t8 < (s.length : Int))))
 (.sub (s[(Int.toNat t8)]?) fun z0 =>
 (.test (v == z0)
 (.ret (Sum.inr (Sum.inl t8)))
 (.ret (Sum.inl (s, (v, (t7, (w64 (t8 + 1)))))))))
 .fail)
 (.ret (Sum.inr (Sum.inr ()))))
noncomputable def F21_L2 (v) := loopO (fun v => (F21_L2_step v).run) v
def F21_fo : List FO := [⟨[(.one (.si .i64))], []⟩]
noncomputable def F21_t : (List (Int) × Int) → T Int := fun (s, v) =>
 (.sub (F21_L2 (s, (v, ((s.length : Int), (0 : Int))))) fun z0 =>
 (.test (Sum.isLeft z0)
 (.sub (Sum.getLeft? z0) fun z1 =>
 (.ret z1))
 (.sub (Sum.getRight? z0) fun z2 =>
 (.ret (-1)))))
noncomputable def F21 (v) := (F21_t v).run
noncomputable def F21_E : TEnv := E0
theorem F21_Eok : (F21_E).OK := E0ok
noncomputable def F21_told : Nat → Option SealT := fun id => if id = 2 then some (LSh.told F21_L2_sh 0 (F21_L2_step)) else none
theorem F21_L2_ok : ToldOK Tryz.prog 0 (loopAt (bodyOf fn_F21) [0]) (LSh.told F21_L2_sh 0 (F21_L2_step)) :=
 loop_ok (E := F21_E) (F21_Eok) (told := F21_told) (l := F21_L2_sh) (step := F21_L2_step) (loopsOK_of (ls := []) (by kernel_rfl) trivial) (by kernel_rfl) (fun v => by kernel_rfl)
theorem F21_ok : FOK Tryz.prog n_F21 F21_sh F21_fo F21 :=
 fn_ok (E := F21_E) (F21_Eok) (told := F21_told) (fl := []) (c := bodyOf fn_F21) (s := F21_sh) (l := F21_fo) (tree := F21_t) fnat_F21 (by kernel_rfl) (by kernel_rfl) (by kernel_rfl) (loopsOK_of (ls := [loopAt (bodyOf fn_F21) [0]]) (by kernel_rfl) ⟨.inr ⟨_, by kernel_rfl, F21_L2_ok⟩, trivial⟩) (fun v => by kernel_rfl)
theorem F21_eq (s : List Int) (v : Int) (hl : s.length < 4611686018427387904) : F21 (s, v) = some (idxI (fun x => v == x) s) := by
 have h := loop_find (step := fun v => (F21_L2_step v).run) (xs := s) (fun x => v == x) (fun k => (s, (v, ((s.length : Int), (k : Int))))) (fun k => .inl (k : Int)) (.inr ())
  (fun k x hx => by
   have hlt := getElem?_lt hx
   have h1 : (k : Int) < (s.length : Int) := by omega
   have h2 : (0 : Int) ≤ k ∧ (k : Int) < (s.length : Int) := by omega
   simp only [F21_L2_step, T.run, Int.toNat_natCast, hx, Option.bind_some, h1, h2, decide_true, if_true, and_self]
   rw [w64_id (z := (k : Int) + 1) (by omega) (by omega)]
   cases hv : (v == x) <;> simp [hv])
  (by simp [F21_L2_step, T.run])
 rw [show ((0 : Nat) : Int) = 0 from rfl] at h
 simp only [F21, F21_t, T.run, F21_L2]
 rw [h]
 simp only [idxI]
 cases hf : s.findIdx? (fun x => v == x) <;> simp [Sum.isLeft, hf]
def F27_sh : FSh := ⟨[.one (.nl true true), .one (.si .i64)], []⟩
def F27_fo : List FO := [⟨[.one (.rw 0 0)], [.row 0 (.int .i64)]⟩]
def F27 (v : Unit × Int) : Option (Unit × List Int) := if 0 ≤ v.2 ∧ v.2 ≤ 1000000000000 ∧ v.2.toNat * 8 ≤ 140737488355328 then some ((), []) else none
def F27_ren : Shelf.Ren := ⟨fun _ => n_F27, fun t => if t = 0 then 0 else if t = 4 then 4 else if t = 9 then 9 else if t = 20 then 20 else if t = 22 then 44 else 3, fun x => x⟩
theorem F27_lay : Lays8.n4 Tryz.prog F27_ren :=
 { f4 := ⟨"slices.Grow[[]int,int]", by kernel_rfl, by kernel_rfl⟩, mixed := by kernel_rfl, t0 := by kernel_rfl, a0 := fun w => by kernel_rfl, z0 := fun w => by kernel_rfl, v0 := fun w => by kernel_rfl, t3 := by kernel_rfl, a3 := fun w => by kernel_rfl, z3 := fun w => by kernel_rfl, v3 := fun w => by kernel_rfl, t4 := by kernel_rfl, a4 := fun w => by kernel_rfl, z4 := fun w => by kernel_rfl, v4 := fun w => by kernel_rfl, t9 := by kernel_rfl, a9 := fun w => by kernel_rfl, z9 := fun w => by kernel_rfl, v9 := fun w => by kernel_rfl, t20 := by kernel_rfl, a20 := fun w => by kernel_rfl, z20 := fun w => by kernel_rfl, v20 := fun w => by kernel_rfl, t22 := by kernel_rfl, a22 := fun w => by kernel_rfl, z22 := fun w => by kernel_rfl, v22 := fun w => by kernel_rfl }
noncomputable def F27_info : TypeInfo := (Tryz.prog.info? 3).get (by kernel_rfl)
theorem F27_ok : FOK Tryz.prog n_F27 F27_sh F27_fo F27 :=
 grow_ok ⟨_, fnat_F27, by kernel_rfl, by kernel_rfl⟩ (ρr := F27_ren) rfl F27_lay (.int .i64) F27_info (.int .i64 0) (by kernel_rfl) (by kernel_rfl) (by kernel_rfl) (by decide) 8 (by kernel_rfl)
def F19_sh : FSh := ⟨[(.one (.sl (.list true (.int .i64)) false false))], []⟩
def F19_L3_sh : LSh := ⟨(fun ex => match ex with | .norm => [(0, none), (3, none), (9, none), (10, none), (11, none)] | .exit i => if i = 0 then [(0, none), (3, none)] else [] | .ret => [(2, none)]), [(0, (.one (.sl (.list true (.int .i64)) false false))), (3, (.one (.si .i64))), (9, (.one (.sl (.list true (.int .i64)) false false))), (10, (.one (.si .i64))), (11, (.one (.si .i64)))], [], [⟨(.exit 0), [(0, (.one (.sl (.list true (.int .i64)) false false))), (3, (.one (.si .i64)))], []⟩], [], []⟩
noncomputable def F19_L3_step : (List (List (Int)) × Int × List (List (Int)) × Int × Int) → T ((List (List (Int)) × Int × List (List (Int)) × Int × Int) ⊕ (List (List (Int)) × Int)) := fun (slices, size, t9, t10, t11) =>
 (.test (decide (t11 < t10))
 (.test (decide ((0 ≤ t11) ∧ (t11 < (t9.length : Int))))
 (.sub (t9[(Int.toNat t11)]?) fun z0 =>
 (.test (decide ((w64 (size + (z0.length : Int))) < 0))
 .fail
 (.ret (Sum.inl (slices, ((w64 (size + (z0.length : Int))), (t9, (t10, (w64 (t11 + 1))))))))))
 .fail)
 (.ret (Sum.inr (slices, size))))
noncomputable def F19_L3 (v) := loopO (fun v => (F19_L3_step v).run) v
def F19_L11_sh : LSh := ⟨(fun ex => match ex with | .norm => [(6, none), (25, none), (26, none), (27, none)] | .exit i => if i = 2 then [(6, none)] else [] | .ret => [(2, none)]), [(6, (.one (.rw 0 0))), (25, (.one (.sl (.list true (.int .i64)) false false))), (26, (.one (.si .i64))), (27, (.one (.si .i64)))], [(.row 0 (.int .i64))], [⟨(.exit 2), [(6, (.one (.rw 0 0)))], [(.row 0 (.int .i64))]⟩], [], []⟩
noncomputable def F19_L11_step : ((Unit × List (List (Int)) × Int × Int) × List (Int)) → T (((Unit × List (List (Int)) × Int × Int) × List (Int)) ⊕ (Unit × List (Int))) := fun (((), t25, t26, t27), newslice) =>
 (.test (decide (t27 < t26))
 (.test (decide ((0 ≤ t27) ∧ (t27 < (t25.length : Int))))
 (.sub (t25[(Int.toNat t27)]?) fun z0 =>
 (.test (decide ((0 + newslice.length) ≤ newslice.length))
 (.test (decide ((2 * ((newslice.length + z0.length) * 9)) ≤ 140737488355328))
 (.test (decide ((0 = 0) ∧ ((newslice.length + z0.length) = (List.length ((win newslice 0 newslice.length) ++ z0)))))
 (.ret (Sum.inl (((), (t25, (t26, (w64 (t27 + 1))))), ((win newslice 0 newslice.length) ++ z0))))
 .fail)
 .fail)
 .fail))
 .fail)
 (.test (decide ((0 = 0) ∧ (newslice.length = newslice.length)))
 (.ret (Sum.inr ((), newslice)))
 .fail))
noncomputable def F19_L11 (v) := loopO (fun v => (F19_L11_step v).run) v
def F19_fo : List FO := [⟨[(.one (.rw 0 0))], [(.row 0 (.int .i64))]⟩]
noncomputable def F19_t : List (List (Int)) → T (Unit × List (Int)) := fun slices =>
 (.sub (F19_L3 (slices, ((0 : Int), (slices, ((slices.length : Int), (0 : Int)))))) fun z0 =>
 (.sub (F27 ((), z0.2)) fun z1 =>
 (.test (decide ((0 = 0) ∧ (z1.2.length = z1.2.length)))
 (.sub (F19_L11 (((), (z0.1, ((z0.1.length : Int), (0 : Int)))), z1.2)) fun z2 =>
 (.test (decide ((0 = 0) ∧ (z2.2.length = z2.2.length)))
 (.ret ((), z2.2))
 .fail))
 .fail)))
noncomputable def F19 (v) := (F19_t v).run
noncomputable def F19_E : TEnv := (E0.add1 n_F27 F27_sh F27_fo F27)
theorem F19_Eok : (F19_E).OK := (E0ok.add1 F27_ok)
noncomputable def F19_told : Nat → Option SealT := fun id => if id = 3 then some (LSh.told F19_L3_sh 0 (F19_L3_step)) else if id = 11 then some (LSh.told F19_L11_sh 0 (F19_L11_step)) else none
theorem F19_L3_ok : ToldOK Tryz.prog 0 (loopAt (bodyOf fn_F19) [0]) (LSh.told F19_L3_sh 0 (F19_L3_step)) :=
 loop_ok (E := F19_E) (F19_Eok) (told := F19_told) (l := F19_L3_sh) (step := F19_L3_step) (loopsOK_of (ls := []) (by kernel_rfl) trivial) (by kernel_rfl) (fun v => by kernel_rfl)
theorem F19_L11_ok : ToldOK Tryz.prog 0 (loopAt (bodyOf fn_F19) [1]) (LSh.told F19_L11_sh 0 (F19_L11_step)) :=
 loop_ok (E := F19_E) (F19_Eok) (told := F19_told) (l := F19_L11_sh) (step := F19_L11_step) (loopsOK_of (ls := []) (by kernel_rfl) trivial) (by kernel_rfl) (fun v => by kernel_rfl)
theorem F19_ok : FOK Tryz.prog n_F19 F19_sh F19_fo F19 :=
 fn_ok (E := F19_E) (F19_Eok) (told := F19_told) (fl := []) (c := bodyOf fn_F19) (s := F19_sh) (l := F19_fo) (tree := F19_t) fnat_F19 (by kernel_rfl) (by kernel_rfl) (by kernel_rfl) (loopsOK_of (ls := [loopAt (bodyOf fn_F19) [0], loopAt (bodyOf fn_F19) [1]]) (by kernel_rfl) ⟨.inr ⟨_, by kernel_rfl, F19_L3_ok⟩, ⟨.inr ⟨_, by kernel_rfl, F19_L11_ok⟩, trivial⟩⟩) (fun v => by kernel_rfl)
theorem F19_two (a b : List Int) (hl : a.length + b.length ≤ 1000) : F19 [a, b] = some ((), a ++ b) := by
 have h3 : F19_L3 ([a, b], ((0 : Int), ([a, b], ((2 : Int), (0 : Int))))) = some ([a, b], ((a.length + b.length : Nat) : Int)) := by
  simp only [F19_L3]
  have w0 : w64 (a.length : Int) = (a.length : Int) := w64_id (by omega) (by omega)
  have w1 : w64 (1 : Int) = 1 := w64_id (by omega) (by omega)
  have w2 : w64 ((a.length : Int) + (b.length : Int)) = ((a.length + b.length : Nat) : Int) := by rw [w64_id (by omega) (by omega)]; omega
  have w3 : w64 ((1 : Int) + 1) = 2 := w64_id (by omega) (by omega)
  have c0 : ¬ ((a.length : Int) < 0) := by omega
  have c1 : ¬ (((a.length + b.length : Nat) : Int) < 0) := by omega
  have s1 : (F19_L3_step ([a, b], ((0 : Int), ([a, b], ((2 : Int), (0 : Int)))))).run = some (.inl ([a, b], ((a.length : Int), ([a, b], ((2 : Int), (1 : Int)))))) := by
   simp [F19_L3_step, T.run, w0, w1, c0]
  have s2 : (F19_L3_step ([a, b], ((a.length : Int), ([a, b], ((2 : Int), (1 : Int)))))).run = some (.inl ([a, b], (((a.length + b.length : Nat) : Int), ([a, b], ((2 : Int), (2 : Int)))))) := by
   simp only [F19_L3_step, T.run, w2, w3]
   simp [c1]
   omega
  have s3 : (F19_L3_step ([a, b], (((a.length + b.length : Nat) : Int), ([a, b], ((2 : Int), (2 : Int)))))).run = some (.inr ([a, b], ((a.length + b.length : Nat) : Int))) := by
   simp [F19_L3_step, T.run]
  rw [loopO_next s1, loopO_next s2, loopO_done s3]
 have hg : F27 ((), ((a.length + b.length : Nat) : Int)) = some ((), []) := by
  unfold F27
  rw [if_pos ⟨by simp only []; omega, by simp only []; omega, by simp only []; omega⟩]
 have h11 : F19_L11 (((), ([a, b], ((2 : Int), (0 : Int)))), ([] : List Int)) = some ((), a ++ b) := by
  simp only [F19_L11]
  have w1 : w64 (1 : Int) = 1 := w64_id (by omega) (by omega)
  have w3 : w64 (2 : Int) = 2 := w64_id (by omega) (by omega)
  have c0 : 2 * (a.length * 9) ≤ 140737488355328 := by omega
  have c1 : 2 * ((a.length + b.length) * 9) ≤ 140737488355328 := by omega
  have hw : win ([] : List Int) 0 0 = [] := rfl
  have s1 : (F19_L11_step (((), ([a, b], ((2 : Int), (0 : Int)))), ([] : List Int))).run = some (.inl (((), ([a, b], ((2 : Int), (1 : Int)))), a)) := by
   simp [F19_L11_step, T.run, w1, c0, hw]
  have s2 : (F19_L11_step (((), ([a, b], ((2 : Int), (1 : Int)))), a)).run = some (.inl (((), ([a, b], ((2 : Int), (2 : Int)))), a ++ b)) := by
   simp [F19_L11_step, T.run, w3, c1, win_all]
  have s3 : (F19_L11_step (((), ([a, b], ((2 : Int), (2 : Int)))), a ++ b)).run = some (.inr ((), a ++ b)) := by
   simp [F19_L11_step, T.run]
  rw [loopO_next s1, loopO_next s2, loopO_done s3]
 simp only [F19, F19_t, T.run, List.length_cons, List.length_nil]
 have e2 : ((0 + 1 + 1 : Nat) : Int) = 2 := rfl
 simp only [e2, h3, Option.bind_some, hg, List.length_nil, true_and, decide_true, if_true, List.length_cons, h11]
def F22_sh : FSh := ⟨[.one (.sl (.int .i64) false false)], []⟩
def F22_fo : List FO := [⟨[.one (.rw 0 0)], [.row 0 (.int .i64)]⟩]
def F22 (v : List Int) : Option (Unit × List Int) := if v.length ≤ maxLen ∧ v.length * 8 ≤ 140737488355328 then some ((), v) else none
def F22_ren : Shelf.Ren := ⟨fun _ => n_F22, fun t => if t = 4 then 4 else if t = 22 then 44 else 3, fun x => x⟩
theorem F22_lay : SlLaysE0.n41 Tryz.prog F22_ren :=
 { mixed := by kernel_rfl, f41 := ⟨"slices.Clone[[]int,int]", by kernel_rfl, by kernel_rfl⟩, t4 := by kernel_rfl, a4 := fun w => by kernel_rfl, z4 := fun w => by kernel_rfl, v4 := fun w => by kernel_rfl, t22 := by kernel_rfl, a22 := fun w => by kernel_rfl, z22 := fun w => by kernel_rfl, v22 := fun w => by kernel_rfl }
noncomputable def F22_info : TypeInfo := (Tryz.prog.info? 3).get (by kernel_rfl)
theorem F22_ok : FOK Tryz.prog n_F22 F22_sh F22_fo F22 :=
 clone_ok (e := .int .i64) ⟨_, fnat_F22, by kernel_rfl, by kernel_rfl⟩ (ρr := F22_ren) rfl F22_lay rfl F22_info (.int .i64 0) 8 (by kernel_rfl) (by kernel_rfl) (by kernel_rfl) (by kernel_rfl) (by decide) (by decide) (fun w => by kernel_rfl)
end Go.Proofs.W
