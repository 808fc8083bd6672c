import Derived.Test.YtaoeghfoifhhcaaGreatMCxIds
set_option linter.unusedVariables false
set_option linter.unusedSimpArgs false
set_option maxRecDepth 100000
set_option maxHeartbeats 4000000
namespace Go.Proofs.W
open Go Go.Gm Go.Proofs
open Go.RowKit Go.Shelf
def upQ (num den : Int) : Int := (num + den - 1) / den
def F125_sh : FSh := ⟨[(.one (.sl (.int .u8) false false)), (.one (.sl (.int .u8) false false))], []⟩
def F125_fo : List FO := [⟨[(.one .sb)], []⟩]
noncomputable def F125_t : (List (Int) × List (Int)) → T Bool := fun (code, more) =>
 (.test (decide ((code.length : Int) > 1048576))
 (.ret true)
 (.ret (decide ((more.length : Int) > (w64 (1048576 - (code.length : Int)))))))
noncomputable def F125 (v) := (F125_t v).run
noncomputable def F125_E : TEnv := E0
theorem F125_Eok : (F125_E).OK := E0ok
noncomputable def F125_told : Nat → Option SealT := fun id => none
theorem F125_ok : FOK Tryz.prog n_F125 F125_sh F125_fo F125 :=
 fn_ok (E := F125_E) (F125_Eok) (told := F125_told) (fl := []) (c := bodyOf fn_F125) (s := F125_sh) (l := F125_fo) (tree := F125_t) fnat_F125 (by kernel_rfl) (by kernel_rfl) (by kernel_rfl) (loopsOK_of (ls := []) (by kernel_rfl) trivial) (fun v => by kernel_rfl)
def F58_sh : FSh := ⟨[(.one (.pf 0 0 0))], [(.rcd 0 [(.sl (.int .u8) false true), (.si .i64), (.si .u64)])]⟩
def F58_fo : List FO := [⟨[(.one (.si .i64))], [(.rcd 0 [(.sl (.int .u8) false true), (.si .i64), (.si .u64)])]⟩]
noncomputable def F58_t : (Unit × (List (Int) × Int × Int)) → T (Int × (List (Int) × Int × Int)) := fun ((), (c_0, c_1, c_2)) =>
 (.test (decide (c_1 < (c_0.length : Int)))
 (.test (decide ((0 ≤ c_1) ∧ (c_1 < (c_0.length : Int))))
 (.sub (c_0[(Int.toNat c_1)]?) fun z0 =>
 (.test (decide ((w64 (c_1 + 1)) ≤ (c_0.length : Int)))
 (.ret ((w64 z0), (c_0, ((w64 (c_1 + 1)), (wu64 ((wu64 ((wu64 (c_2 * 6364136223846793005)) + (wu64 (w64 z0)))) + 1442695040888963407))))))
 (.ret ((w64 (wu64 (((Int.toNat ((Int.rec
 (fun a =>
 (fun a =>
 Nat.casesOn a ((fun x => 0) (2 ^ min (Int.toNat 40) IntKind.u64.bits)) fun n =>
 Int.casesOn (2 ^ min (Int.toNat 40) IntKind.u64.bits) (fun a => (fun m n => Int.ofNat (m / n)) n.succ a)
 fun a => (fun m n => Int.negSucc (m / n.succ)) n a)
 a)
 (fun a =>
 (fun a =>
 Int.casesOn (2 ^ min (Int.toNat 40) IntKind.u64.bits)
 (fun a_1 => Nat.casesOn a_1 ((fun a => 0) a) fun n => (fun m n => Int.negSucc (m / n.succ)) a n) fun a_1 =>
 (fun m n => Int.ofNat (m.succ / n.succ)) a a_1)
 a)
 (IntKind.u64.wrap
 (IntKind.u64.wrap
 (IntKind.u64.wrap (c_2 * Int.ofNat 6364136223846793005) + IntKind.u64.wrap (IntKind.i64.wrap z0)) +
 Int.ofNat 1442695040888963407))) % 18446744073709551616)) &&& 255 : Nat) : Int))), (c_0, ((w64 (c_1 + 1)), (wu64 ((wu64 ((wu64 (c_2 * 6364136223846793005)) + (wu64 (w64 z0)))) + 1442695040888963407))))))))
 .fail)
 (.test (decide ((w64 (c_1 + 1)) ≤ (c_0.length : Int)))
 (.ret ((0 : Int), (c_0, ((w64 (c_1 + 1)), (wu64 ((wu64 ((wu64 (c_2 * 6364136223846793005)) + 0)) + 1442695040888963407))))))
 (.ret ((w64 (wu64 (((Int.toNat ((Int.rec
 (fun a =>
 (fun a =>
 Nat.casesOn a ((fun x => 0) (2 ^ min (Int.toNat 40) IntKind.u64.bits)) fun n =>
 Int.casesOn (2 ^ min (Int.toNat 40) IntKind.u64.bits) (fun a => (fun m n => Int.ofNat (m / n)) n.succ a)
 fun a => (fun m n => Int.negSucc (m / n.succ)) n a)
 a)
 (fun a =>
 (fun a =>
 Int.casesOn (2 ^ min (Int.toNat 40) IntKind.u64.bits)
 (fun a_1 => Nat.casesOn a_1 ((fun a => 0) a) fun n => (fun m n => Int.negSucc (m / n.succ)) a n) fun a_1 =>
 (fun m n => Int.ofNat (m.succ / n.succ)) a a_1)
 a)
 (IntKind.u64.wrap
 (IntKind.u64.wrap (IntKind.u64.wrap (c_2 * Int.ofNat 6364136223846793005) + Int.ofNat 0) +
 Int.ofNat 1442695040888963407))) % 18446744073709551616)) &&& 255 : Nat) : Int))), (c_0, ((w64 (c_1 + 1)), (wu64 ((wu64 ((wu64 (c_2 * 6364136223846793005)) + 0)) + 1442695040888963407))))))))
noncomputable def F58 (v) := (F58_t v).run
noncomputable def F58_E : TEnv := E0
theorem F58_Eok : (F58_E).OK := E0ok
noncomputable def F58_told : Nat → Option SealT := fun id => none
theorem F58_ok : FOK Tryz.prog n_F58 F58_sh F58_fo F58 :=
 fn_ok (E := F58_E) (F58_Eok) (told := F58_told) (fl := []) (c := bodyOf fn_F58) (s := F58_sh) (l := F58_fo) (tree := F58_t) fnat_F58 (by kernel_rfl) (by kernel_rfl) (by kernel_rfl) (loopsOK_of (ls := []) (by kernel_rfl) trivial) (fun v => by kernel_rfl)
def F59_sh : FSh := ⟨[(.one (.pf 0 0 0)), (.one (.si .i64))], [(.rcd 0 [(.sl (.int .u8) false true), (.si .i64), (.si .u64)])]⟩
def F59_fo : List FO := [⟨[(.one (.si .i64))], [(.rcd 0 [(.sl (.int .u8) false true), (.si .i64), (.si .u64)])]⟩]
noncomputable def F59_t : ((Unit × Int) × (List (Int) × Int × Int)) → T (Int × (List (Int) × Int × Int)) := fun (((), n), (c_0, c_1, c_2)) =>
 (.test (decide (n ≤ 1))
 (.ret ((0 : Int), (c_0, (c_1, c_2))))
 (.sub (F58 ((), (c_0, (c_1, c_2)))) fun z0 =>
 (.test (decide (n > 200))
 (.sub (F58 ((), (z0.2.1, (z0.2.2.1, z0.2.2.2)))) fun z1 =>
 (.test (decide (n ≠ 0))
 (.ret ((Int.tmod (w64 ((w64 (z0.1 * 256)) + z1.1)) n), (z1.2.1, (z1.2.2.1, z1.2.2.2))))
 .fail))
 (.test (decide (n ≠ 0))
 (.ret ((Int.tmod z0.1 n), (z0.2.1, (z0.2.2.1, z0.2.2.2))))
 .fail))))
noncomputable def F59 (v) := (F59_t v).run
noncomputable def F59_E : TEnv := (E0.add1 n_F58 F58_sh F58_fo F58)
theorem F59_Eok : (F59_E).OK := (E0ok.add1 F58_ok)
noncomputable def F59_told : Nat → Option SealT := fun id => none
theorem F59_ok : FOK Tryz.prog n_F59 F59_sh F59_fo F59 :=
 fn_ok (E := F59_E) (F59_Eok) (told := F59_told) (fl := []) (c := bodyOf fn_F59) (s := F59_sh) (l := F59_fo) (tree := F59_t) fnat_F59 (by kernel_rfl) (by kernel_rfl) (by kernel_rfl) (loopsOK_of (ls := []) (by kernel_rfl) trivial) (fun v => by kernel_rfl)
def F52_sh : FSh := ⟨[(.one (.pf 0 0 0)), (.one (.sl (.int .i64) false false))], [(.rcd 0 [(.sl (.int .u8) false true), (.si .i64), (.si .u64)])]⟩
def F52_fo : List FO := [⟨[(.one (.si .i64))], [(.rcd 0 [(.sl (.int .u8) false true), (.si .i64), (.si .u64)])]⟩]
noncomputable def F52_t : ((Unit × List (Int)) × (List (Int) × Int × Int)) → T (Int × (List (Int) × Int × Int)) := fun (((), list), (c_0, c_1, c_2)) =>
 (.sub (F59 (((), (list.length : Int)), (c_0, (c_1, c_2)))) fun z0 =>
 (.test (decide ((0 ≤ z0.1) ∧ (z0.1 < (list.length : Int))))
 (.sub (list[(Int.toNat z0.1)]?) fun z1 =>
 (.ret (z1, (z0.2.1, (z0.2.2.1, z0.2.2.2)))))
 .fail))
noncomputable def F52 (v) := (F52_t v).run
noncomputable def F52_E : TEnv := (E0.add1 n_F59 F59_sh F59_fo F59)
theorem F52_Eok : (F52_E).OK := (E0ok.add1 F59_ok)
noncomputable def F52_told : Nat → Option SealT := fun id => none
theorem F52_ok : FOK Tryz.prog n_F52 F52_sh F52_fo F52 :=
 fn_ok (E := F52_E) (F52_Eok) (told := F52_told) (fl := []) (c := bodyOf fn_F52) (s := F52_sh) (l := F52_fo) (tree := F52_t) fnat_F52 (by kernel_rfl) (by kernel_rfl) (by kernel_rfl) (loopsOK_of (ls := []) (by kernel_rfl) trivial) (fun v => by kernel_rfl)
def F11_sh : FSh := ⟨[(.one (.sl (.int .u8) false true))], []⟩
def F11_fo : List FO := [⟨[(.one (.si .i64))], []⟩]
noncomputable def F11_t : List (Int) → T Int := fun code =>
 (.test true
 (.sub (F52 (((), [(3 : Int), (4 : Int), (5 : Int), (6 : Int), (7 : Int), (8 : Int), (12 : Int), (2 : Int), (13 : Int), (0 : Int), (-1)]), (code, ((0 : Int), (0 : Int))))) fun z0 =>
 (.ret z0.1))
 .fail)
noncomputable def F11 (v) := (F11_t v).run
noncomputable def F11_E : TEnv := (E0.add1 n_F52 F52_sh F52_fo F52)
theorem F11_Eok : (F11_E).OK := (E0ok.add1 F52_ok)
noncomputable def F11_told : Nat → Option SealT := fun id => none
theorem F11_ok : FOK Tryz.prog n_F11 F11_sh F11_fo F11 :=
 fn_ok (E := F11_E) (F11_Eok) (told := F11_told) (fl := []) (c := bodyOf fn_F11) (s := F11_sh) (l := F11_fo) (tree := F11_t) fnat_F11 (by kernel_rfl) (by kernel_rfl) (by kernel_rfl) (loopsOK_of (ls := []) (by kernel_rfl) trivial) (fun v => by kernel_rfl)
def F65_sh : FSh := ⟨[(.one (.pf 0 0 0)), (.one (.si .i64))], [(.rcd 0 [(.sl (.int .u8) false true), (.si .i64), (.si .u64)])]⟩
def F65_fo : List FO := [⟨[(.one .sb)], [(.rcd 0 [(.sl (.int .u8) false true), (.si .i64), (.si .u64)])]⟩]
noncomputable def F65_t : ((Unit × Int) × (List (Int) × Int × Int)) → T (Bool × (List (Int) × Int × Int)) := fun (((), n), (c_0, c_1, c_2)) =>
 (.sub (F59 (((), n), (c_0, (c_1, c_2)))) fun z0 =>
 (.ret ((z0.1 == 0), (z0.2.1, (z0.2.2.1, z0.2.2.2)))))
noncomputable def F65 (v) := (F65_t v).run
noncomputable def F65_E : TEnv := (E0.add1 n_F59 F59_sh F59_fo F59)
theorem F65_Eok : (F65_E).OK := (E0ok.add1 F59_ok)
noncomputable def F65_told : Nat → Option SealT := fun id => none
theorem F65_ok : FOK Tryz.prog n_F65 F65_sh F65_fo F65 :=
 fn_ok (E := F65_E) (F65_Eok) (told := F65_told) (fl := []) (c := bodyOf fn_F65) (s := F65_sh) (l := F65_fo) (tree := F65_t) fnat_F65 (by kernel_rfl) (by kernel_rfl) (by kernel_rfl) (loopsOK_of (ls := []) (by kernel_rfl) trivial) (fun v => by kernel_rfl)
def curOK (k : Int) (c : List Int × Int × Int) : Prop := (∀ x ∈ c.1, 0 ≤ x ∧ x ≤ 255) ∧ 0 ≤ c.2.1 ∧ c.2.1 ≤ k
theorem curOK.mono {k m : Int} {c : List Int × Int × Int} (h : curOK k c) (hk : k ≤ m) : curOK m c := ⟨h.1, h.2.1, Int.le_trans h.2.2 hk⟩
theorem wu64_id {z : Int} (h1 : 0 ≤ z) (h2 : z ≤ 18446744073709551615) : wu64 z = z := by
 simp [wu64, IntKind.wrap, IntKind.bits, IntKind.signed]; omega
theorem mask_ok (n : Nat) : 0 ≤ w64 (wu64 ((n &&& 255 : Nat) : Int)) ∧ w64 (wu64 ((n &&& 255 : Nat) : Int)) ≤ 255 := by
 have h : n &&& 255 ≤ 255 := Nat.and_le_right
 generalize n &&& 255 = m at h
 rw [wu64_id (by omega) (by omega), w64_id (by omega) (by omega)]
 omega
theorem next_ok {k : Int} {c : List Int × Int × Int} (h : curOK k c) (hk : k < 1000000000000000) : ∃ v c', F58 ((), c) = some (v, c') ∧ (0 ≤ v ∧ v ≤ 255) ∧ curOK (k + 1) c' := by
 obtain ⟨c0, c1, c2⟩ := c
 obtain ⟨h1, h2, h3⟩ := h
 simp only at h1 h2 h3
 have w1 : w64 (c1 + 1) = c1 + 1 := w64_id (by omega) (by omega)
 rw [F58, F58_t]
 by_cases a : c1 < (c0.length : Int)
 ·have hlt : c1.toNat < c0.length := by omega
  have hx := h1 c0[c1.toNat] (List.getElem_mem hlt)
  rw [T.run_test, if_pos (decide_eq_true a), T.run_test, if_pos (decide_eq_true (by omega)), T.run_sub, List.getElem?_eq_getElem hlt, Option.bind_some, T.run_test, if_pos (decide_eq_true (by rw [w1]; omega)), T.run_ret, w1]
  have w2 : w64 c0[c1.toNat] = c0[c1.toNat] := w64_id (by omega) (by omega)
  refine ⟨_, _, rfl, by rw [w2]; exact hx, h1, ?_, ?_⟩
  ·show 0 ≤ c1 + 1; omega
  ·show c1 + 1 ≤ k + 1; omega
 ·rw [T.run_test, if_neg (by rw [decide_eq_true_eq]; exact a), T.run_test, if_neg (by rw [decide_eq_true_eq, w1]; omega), T.run_ret, w1]
  refine ⟨_, _, rfl, mask_ok _, h1, ?_, ?_⟩
  ·show 0 ≤ c1 + 1; omega
  ·show c1 + 1 ≤ k + 1; omega
theorem pick_ok {k : Int} {c : List Int × Int × Int} (n : Int) (h : curOK k c) (hk : k < 100000000000000) : ∃ v c', F59 (((), n), c) = some (v, c') ∧ 0 ≤ v ∧ (1 ≤ n → v < n) ∧ (n ≤ 1 → v = 0) ∧ curOK (k + 2) c' := by
 obtain ⟨c0, c1, c2⟩ := c
 rw [F59, F59_t]
 by_cases a : n ≤ 1
 ·rw [T.run_test, if_pos (decide_eq_true a), T.run_ret]
  exact ⟨0, _, rfl, Int.le_refl _, fun h => by omega, fun _ => rfl, h.mono (by omega)⟩
 ·obtain ⟨v, ⟨d0, d1, d2⟩, e, hv, hc⟩ := next_ok h (by omega)
  rw [T.run_test, if_neg (by rw [decide_eq_true_eq]; exact a), T.run_sub, e, Option.bind_some, T.run_test]
  by_cases b : n > 200
  ·obtain ⟨u, ⟨f0, f1, f2⟩, e2, hu, hc2⟩ := next_ok hc (by omega)
   rw [if_pos (decide_eq_true b), T.run_sub, e2, Option.bind_some, T.run_test, if_pos (decide_eq_true (by omega)), T.run_ret]
   have w : w64 (w64 (v * 256) + u) = v * 256 + u := by rw [w64_id (z := v * 256) (by omega) (by omega), w64_id (by omega) (by omega)]
   refine ⟨_, _, rfl, ?_, fun _ => ?_, fun h => absurd h a, hc2.mono (by omega)⟩
   ·rw [w]; exact Int.tmod_nonneg _ (by omega)
   ·rw [w]; exact Int.tmod_lt_of_pos _ (by omega)
  ·rw [if_neg (by rw [decide_eq_true_eq]; exact b), T.run_test, if_pos (decide_eq_true (by omega)), T.run_ret]
   exact ⟨_, _, rfl, Int.tmod_nonneg _ (by omega), fun _ => Int.tmod_lt_of_pos _ (by omega), fun h => absurd h a, hc.mono (by omega)⟩
theorem among_ok {k : Int} {c : List Int × Int × Int} (l : List Int) (h : curOK k c) (hk : k < 100000000000000) (hl : 1 ≤ l.length) : ∃ v c', F52 (((), l), c) = some (v, c') ∧ v ∈ l ∧ curOK (k + 2) c' := by
 obtain ⟨c0, c1, c2⟩ := c
 obtain ⟨v, ⟨d0, d1, d2⟩, e, h0, h1, _, hc⟩ := pick_ok (l.length : Int) h hk
 have h1 := h1 (by omega)
 have hlt : v.toNat < l.length := by omega
 rw [F52, F52_t, T.run_sub, e, Option.bind_some, T.run_test, if_pos (decide_eq_true (by omega)), T.run_sub, List.getElem?_eq_getElem hlt, Option.bind_some, T.run_ret]
 exact ⟨_, _, rfl, List.getElem_mem hlt, hc⟩
theorem one_ok {k : Int} {c : List Int × Int × Int} (n : Int) (h : curOK k c) (hk : k < 100000000000000) : ∃ v c', F65 (((), n), c) = some (v, c') ∧ curOK (k + 2) c' := by
 obtain ⟨c0, c1, c2⟩ := c
 obtain ⟨v, ⟨d0, d1, d2⟩, e, _, _, _, hc⟩ := pick_ok n h hk
 rw [F65, F65_t, T.run_sub, e, Option.bind_some, T.run_ret]
 exact ⟨_, _, rfl, hc⟩
def bytesOK (code : List Int) : Prop := ∀ x ∈ code, 0 ≤ x ∧ x ≤ 255
theorem cur0 {code : List Int} (h : bytesOK code) : curOK 0 (code, ((0 : Int), (0 : Int))) := ⟨h, Int.le_refl _, Int.le_refl _⟩
def F97_sh : FSh := ⟨[(.one (.sl (.int .i64) false false))], []⟩
def F97_fo : List FO := [⟨[(.one (.rw 0 0))], [(.row 0 (.int .i64))]⟩]
noncomputable def F97_t : List (Int) → T (Unit × List (Int)) := fun l =>
 (.test true
 (.test (decide ((2 * ((0 + l.length) * 9)) ≤ 140737488355328))
 (.test (decide ((0 = 0) ∧ ((0 + l.length) = (List.length ((win (List.replicate 0 (0 : Int)) 0 0) ++ l)))))
 (.ret ((), ((win (List.replicate 0 (0 : Int)) 0 0) ++ l)))
 .fail)
 .fail)
 .fail)
noncomputable def F97 (v) := (F97_t v).run
noncomputable def F97_E : TEnv := E0
theorem F97_Eok : (F97_E).OK := E0ok
noncomputable def F97_told : Nat → Option SealT := fun id => none
theorem F97_ok : FOK Tryz.prog n_F97 F97_sh F97_fo F97 :=
 fn_ok (E := F97_E) (F97_Eok) (told := F97_told) (fl := []) (c := bodyOf fn_F97) (s := F97_sh) (l := F97_fo) (tree := F97_t) fnat_F97 (by kernel_rfl) (by kernel_rfl) (by kernel_rfl) (loopsOK_of (ls := []) (by kernel_rfl) trivial) (fun v => by kernel_rfl)
theorem F97_eq (l : List Int) (hl : l.length < 1000000000000) : F97 l = some ((), l) := by
 have h : 2 * (l.length * 9) ≤ 140737488355328 := by omega
 have hw : win ([] : List Int) 0 0 = [] := rfl
 simp [F97, F97_t, T.run, hw, h]
def F27_sh : FSh := ⟨[(.one (.pf 0 0 0)), (.one (.si .i64))], [(.rcd 0 [(.sl (.int .u8) false true), (.si .i64), (.si .u64)])]⟩
def F27_L2_sh : LSh := ⟨(fun ex => match ex with | .norm => [(0, none), (1, none), (5, none)] | .exit i => if i = 0 then [(5, none)] else [] | .ret => [(4, none)]), [(0, (.one (.pf 0 0 0))), (1, (.one (.si .i64))), (5, (.one (.rw 1 0)))], [(.rcd 0 [(.sl (.int .u8) false true), (.si .i64), (.si .u64)]), (.row 0 (.int .i64))], [⟨(.exit 0), [(5, (.one (.rw 1 0)))], [(.rcd 0 [(.sl (.int .u8) false true), (.si .i64), (.si .u64)]), (.row 0 (.int .i64))]⟩], [], []⟩
noncomputable def F27_L2_step : ((Unit × Int × Unit) × ((List (Int) × Int × Int) × List (Int))) → T (((Unit × Int × Unit) × ((List (Int) × Int × Int) × List (Int))) ⊕ (Unit × ((List (Int) × Int × Int) × List (Int)))) := fun (((), n, ()), ((c_0, c_1, c_2), out)) =>
 (.test (decide ((out.length : Int) < n))
 (.sub (F59 (((), (out.length : Int)), (c_0, (c_1, c_2)))) fun z0 =>
 (.test (decide (0 ≤ (w64 (1 + z0.1))))
 (.test (decide ((0 ≤ (Int.toNat (w64 (1 + z0.1)))) ∧ ((Int.toNat (w64 (1 + z0.1))) ≤ out.length)))
 (.test (decide ((0 + ((Int.toNat (w64 (1 + z0.1))) - 0)) ≤ out.length))
 (.sub (F97 (win out 0 ((Int.toNat (w64 (1 + z0.1))) - 0))) fun z1 =>
 (.test true
 (.test (decide ((0 + z1.2.length) ≤ z1.2.length))
 (.test (decide ((2 * ((z1.2.length + 1) * 9)) ≤ 140737488355328))
 (.test (decide (0 ≤ (w64 (1 + z0.1))))
 (.test (decide (((Int.toNat (w64 (1 + z0.1))) ≤ out.length) ∧ (out.length ≤ out.length)))
 (.test (decide (((0 + (Int.toNat (w64 (1 + z0.1)))) + (out.length - (Int.toNat (w64 (1 + z0.1))))) ≤ out.length))
 (.test (decide ((0 + (z1.2.length + 1)) ≤ (List.length ((win z1.2 0 z1.2.length) ++ (win (List.set (List.replicate 1 (0 : Int)) 0 (1 : Int)) 0 1)))))
 (.test (decide ((2 * (((z1.2.length + 1) + (List.length (win out (0 + (Int.toNat (w64 (1 + z0.1)))) (out.length - (Int.toNat (w64 (1 + z0.1))))))) * 9)) ≤ 140737488355328))
 (.test (decide ((0 ≤ (w64 ((w64 (1 + z0.1)) - 1))) ∧ ((w64 ((w64 (1 + z0.1)) - 1)) < (((z1.2.length + 1) + (List.length (win out (0 + (Int.toNat (w64 (1 + z0.1)))) (out.length - (Int.toNat (w64 (1 + z0.1))))))) : Int))))
 (.sub (((win ((win z1.2 0 z1.2.length) ++ (win (List.set (List.replicate 1 (0 : Int)) 0 (1 : Int)) 0 1)) 0 (z1.2.length + 1)) ++ (win out (0 + (Int.toNat (w64 (1 + z0.1)))) (out.length - (Int.toNat (w64 (1 + z0.1))))))[(0 + (Int.toNat (w64 ((w64 (1 + z0.1)) - 1))))]?) fun z2 =>
 (.test (decide ((0 ≤ (w64 ((w64 (1 + z0.1)) - 1))) ∧ ((w64 ((w64 (1 + z0.1)) - 1)) < (((z1.2.length + 1) + (List.length (win out (0 + (Int.toNat (w64 (1 + z0.1)))) (out.length - (Int.toNat (w64 (1 + z0.1))))))) : Int))))
 (.sub (((win ((win z1.2 0 z1.2.length) ++ (win (List.set (List.replicate 1 (0 : Int)) 0 (1 : Int)) 0 1)) 0 (z1.2.length + 1)) ++ (win out (0 + (Int.toNat (w64 (1 + z0.1)))) (out.length - (Int.toNat (w64 (1 + z0.1))))))[(0 + (Int.toNat (w64 ((w64 (1 + z0.1)) - 1))))]?) fun z3 =>
 (.test (decide ((((z1.2.length + 1) + (List.length (win out (0 + (Int.toNat (w64 (1 + z0.1)))) (out.length - (Int.toNat (w64 (1 + z0.1))))))) : Int) ≠ 0))
 (.test (decide ((0 ≤ (Int.tmod (w64 ((w64 (1 + z0.1)) + 1)) (((z1.2.length + 1) + (List.length (win out (0 + (Int.toNat (w64 (1 + z0.1)))) (out.length - (Int.toNat (w64 (1 + z0.1))))))) : Int))) ∧ ((Int.tmod (w64 ((w64 (1 + z0.1)) + 1)) (((z1.2.length + 1) + (List.length (win out (0 + (Int.toNat (w64 (1 + z0.1)))) (out.length - (Int.toNat (w64 (1 + z0.1))))))) : Int)) < (((z1.2.length + 1) + (List.length (win out (0 + (Int.toNat (w64 (1 + z0.1)))) (out.length - (Int.toNat (w64 (1 + z0.1))))))) : Int))))
 (.sub ((List.set ((win ((win z1.2 0 z1.2.length) ++ (win (List.set (List.replicate 1 (0 : Int)) 0 (1 : Int)) 0 1)) 0 (z1.2.length + 1)) ++ (win out (0 + (Int.toNat (w64 (1 + z0.1)))) (out.length - (Int.toNat (w64 (1 + z0.1)))))) (0 + (Int.toNat (w64 ((w64 (1 + z0.1)) - 1)))) (w64 (z2 + 1)))[(0 + (Int.toNat (Int.tmod (w64 ((w64 (1 + z0.1)) + 1)) (((z1.2.length + 1) + (List.length (win out (0 + (Int.toNat (w64 (1 + z0.1)))) (out.length - (Int.toNat (w64 (1 + z0.1))))))) : Int))))]?) fun z4 =>
 (.test (decide ((0 ≤ (Int.tmod (w64 ((w64 (1 + z0.1)) + 1)) (((z1.2.length + 1) + (List.length (win out (0 + (Int.toNat (w64 (1 + z0.1)))) (out.length - (Int.toNat (w64 (1 + z0.1))))))) : Int))) ∧ ((Int.tmod (w64 ((w64 (1 + z0.1)) + 1)) (((z1.2.length + 1) + (List.length (win out (0 + (Int.toNat (w64 (1 + z0.1)))) (out.length - (Int.toNat (w64 (1 + z0.1))))))) : Int)) < (((z1.2.length + 1) + (List.length (win out (0 + (Int.toNat (w64 (1 + z0.1)))) (out.length - (Int.toNat (w64 (1 + z0.1))))))) : Int))))
 (.sub ((List.set ((win ((win z1.2 0 z1.2.length) ++ (win (List.set (List.replicate 1 (0 : Int)) 0 (1 : Int)) 0 1)) 0 (z1.2.length + 1)) ++ (win out (0 + (Int.toNat (w64 (1 + z0.1)))) (out.length - (Int.toNat (w64 (1 + z0.1)))))) (0 + (Int.toNat (w64 ((w64 (1 + z0.1)) - 1)))) (w64 (z2 + 1)))[(0 + (Int.toNat (Int.tmod (w64 ((w64 (1 + z0.1)) + 1)) (((z1.2.length + 1) + (List.length (win out (0 + (Int.toNat (w64 (1 + z0.1)))) (out.length - (Int.toNat (w64 (1 + z0.1))))))) : Int))))]?) fun z5 =>
 (.test (decide ((0 = 0) ∧ (((z1.2.length + 1) + (List.length (win out (0 + (Int.toNat (w64 (1 + z0.1)))) (out.length - (Int.toNat (w64 (1 + z0.1))))))) = (List.length (List.set (List.set ((win ((win z1.2 0 z1.2.length) ++ (win (List.set (List.replicate 1 (0 : Int)) 0 (1 : Int)) 0 1)) 0 (z1.2.length + 1)) ++ (win out (0 + (Int.toNat (w64 (1 + z0.1)))) (out.length - (Int.toNat (w64 (1 + z0.1)))))) (0 + (Int.toNat (w64 ((w64 (1 + z0.1)) - 1)))) (w64 (z2 + 1))) (0 + (Int.toNat (Int.tmod (w64 ((w64 (1 + z0.1)) + 1)) (((z1.2.length + 1) + (List.length (win out (0 + (Int.toNat (w64 (1 + z0.1)))) (out.length - (Int.toNat (w64 (1 + z0.1))))))) : Int)))) (w64 (z4 + 1)))))))
 (.ret (Sum.inl (((), (n, ())), ((z0.2.1, (z0.2.2.1, z0.2.2.2)), (List.set (List.set ((win ((win z1.2 0 z1.2.length) ++ (win (List.set (List.replicate 1 (0 : Int)) 0 (1 : Int)) 0 1)) 0 (z1.2.length + 1)) ++ (win out (0 + (Int.toNat (w64 (1 + z0.1)))) (out.length - (Int.toNat (w64 (1 + z0.1)))))) (0 + (Int.toNat (w64 ((w64 (1 + z0.1)) - 1)))) (w64 (z2 + 1))) (0 + (Int.toNat (Int.tmod (w64 ((w64 (1 + z0.1)) + 1)) (((z1.2.length + 1) + (List.length (win out (0 + (Int.toNat (w64 (1 + z0.1)))) (out.length - (Int.toNat (w64 (1 + z0.1))))))) : Int)))) (w64 (z4 + 1)))))))
 .fail))
 .fail))
 .fail)
 .fail))
 .fail))
 .fail)
 .fail)
 .fail)
 .fail)
 .fail)
 .fail)
 .fail)
 .fail)
 .fail))
 .fail)
 .fail)
 .fail))
 (.test (decide ((0 = 0) ∧ (out.length = out.length)))
 (.ret (Sum.inr ((), ((c_0, (c_1, c_2)), out))))
 .fail))
noncomputable def F27_L2 (v) := loopO (fun v => (F27_L2_step v).run) v
def F27_fo : List FO := [⟨[(.one (.rw 1 0))], [(.rcd 0 [(.sl (.int .u8) false true), (.si .i64), (.si .u64)]), (.row 0 (.int .i64))]⟩]
noncomputable def F27_t : ((Unit × Int) × (List (Int) × Int × Int)) → T (Unit × ((List (Int) × Int × Int) × List (Int))) := fun (((), n), (c_0, c_1, c_2)) =>
 (.test (decide ((0 = 0) ∧ (3 = (List.length (List.set (List.set (List.set (List.replicate 3 (0 : Int)) 0 (1 : Int)) 1 (1 : Int)) 2 (1 : Int))))))
 (.sub (F27_L2 (((), (n, ())), ((c_0, (c_1, c_2)), (List.set (List.set (List.set (List.replicate 3 (0 : Int)) 0 (1 : Int)) 1 (1 : Int)) 2 (1 : Int))))) fun z0 =>
 (.test (decide ((0 = 0) ∧ (z0.2.2.length = z0.2.2.length)))
 (.ret ((), ((z0.2.1.1, (z0.2.1.2.1, z0.2.1.2.2)), z0.2.2)))
 .fail))
 .fail)
noncomputable def F27 (v) := (F27_t v).run
noncomputable def F27_E : TEnv := ((E0.add1 n_F59 F59_sh F59_fo F59).add1 n_F97 F97_sh F97_fo F97)
theorem F27_Eok : (F27_E).OK := ((E0ok.add1 F59_ok).add1 F97_ok)
noncomputable def F27_told : Nat → Option SealT := fun id => if id = 2 then some (LSh.told F27_L2_sh 1 (F27_L2_step)) else none
theorem F27_L2_ok : ToldOK Tryz.prog 1 (loopAt (bodyOf fn_F27) [0]) (LSh.told F27_L2_sh 1 (F27_L2_step)) :=
 loop_ok (E := F27_E) (F27_Eok) (told := F27_told) (l := F27_L2_sh) (step := F27_L2_step) (loopsOK_of (ls := []) (by kernel_rfl) trivial) (by kernel_rfl) (fun v => by kernel_rfl)
theorem F27_ok : FOK Tryz.prog n_F27 F27_sh F27_fo F27 :=
 fn_ok (E := F27_E) (F27_Eok) (told := F27_told) (fl := []) (c := bodyOf fn_F27) (s := F27_sh) (l := F27_fo) (tree := F27_t) fnat_F27 (by kernel_rfl) (by kernel_rfl) (by kernel_rfl) (loopsOK_of (ls := [loopAt (bodyOf fn_F27) [0]]) (by kernel_rfl) ⟨.inr ⟨_, by kernel_rfl, F27_L2_ok⟩, trivial⟩) (fun v => by kernel_rfl)
theorem win_len {α : Type} (xs : List α) (o n : Nat) (h : o + n ≤ xs.length) : (win xs o n).length = n := by unfold win; rw [List.length_take, List.length_drop]; omega
theorem win_le {α : Type} (xs : List α) (o n : Nat) : (win xs o n).length ≤ xs.length := by unfold win; rw [List.length_take, List.length_drop]; omega
theorem sureQ_loop (n : Int) (hn : n ≤ 20) : ∀ (m : Nat) (K : Int) (c : List Int × Int × Int) (out : List Int), curOK K c → K + 2 * (m : Int) < 10000000000 → 3 ≤ out.length → out.length ≤ 20 → 20 ≤ out.length + m →
  ∃ c' out', F27_L2 (((), (n, ())), (c, out)) = some ((), (c', out')) ∧ 3 ≤ out'.length ∧ out'.length ≤ 20 ∧ curOK (K + 2 * (m : Int)) c' := by
 intro m
 induction m with
 | zero =>
  intro K c out h hK h3 h20 hm
  obtain ⟨c0, c1, c2⟩ := c
  have c9 : ¬ ((out.length : Int) < n) := by omega
  refine ⟨_, out, ?_, h3, h20, h.mono (by omega)⟩
  simp only [F27_L2]
  exact loopO_done (by simp [F27_L2_step, T.run, c9])
 | succ m ih =>
  intro K c out h hK h3 h20 hm
  obtain ⟨c0, c1, c2⟩ := c
  by_cases c9 : (out.length : Int) < n
  ·obtain ⟨v, ⟨d0, d1, d2⟩, e, h0, h1, h2, hc⟩ := pick_ok (out.length : Int) h (by omega)
   have h1 := h1 (by omega)
   obtain ⟨v, rfl⟩ := Int.eq_ofNat_of_zero_le h0
   have w1 : w64 (1 + (v : Int)) = ((v + 1 : Nat) : Int) := by rw [w64_id (by omega) (by omega)]; omega
   have w2 : w64 (((v + 1 : Nat) : Int) - 1) = (v : Int) := by rw [w64_id (by omega) (by omega)]; omega
   have w3 : w64 (((v + 1 : Nat) : Int) + 1) = ((v + 2 : Nat) : Int) := by rw [w64_id (by omega) (by omega)]; omega
   have hv : v < out.length := by omega
   have l1 : (win out 0 (v + 1)).length = v + 1 := win_len _ _ _ (by omega)
   have l2 : (win out (v + 1) (out.length - (v + 1))).length = out.length - (v + 1) := win_len _ _ _ (by omega)
   have ow := F97_eq (win out 0 (v + 1)) (by omega)
   obtain ⟨W1, hW1⟩ : ∃ W, W = win out 0 (v + 1) := ⟨_, rfl⟩
   obtain ⟨W2, hW2⟩ : ∃ W, W = win out (v + 1) (out.length - (v + 1)) := ⟨_, rfl⟩
   rw [← hW1] at l1 ow
   rw [← hW2] at l2
   have hw : win (W1 ++ [1]) 0 (v + 1 + 1) = W1 ++ [1] := by
    have := win_all (W1 ++ [(1 : Int)])
    rwa [List.length_append, l1] at this
   have hwa : win W1 0 (v + 1) = W1 := by have := win_all W1; rwa [l1] at this
   obtain ⟨L, hL⟩ : ∃ L, L = (W1 ++ [1]) ++ W2 := ⟨_, rfl⟩
   have hLl : L.length = v + 1 + 1 + (out.length - (v + 1)) := by rw [hL]; simp [l1, l2]; omega
   have t1 : Int.tmod ((v + 2 : Nat) : Int) ((v + 1 + 1 + (out.length - (v + 1)) : Nat) : Int) = (((v + 2) % (v + 1 + 1 + (out.length - (v + 1))) : Nat) : Int) := by
    rw [Int.tmod_eq_emod_of_nonneg (by omega)]
    rfl
   have t2 : (v + 2) % (v + 1 + 1 + (out.length - (v + 1))) < v + 1 + 1 + (out.length - (v + 1)) := Nat.mod_lt _ (by omega)
   generalize hq : (v + 2) % (v + 1 + 1 + (out.length - (v + 1))) = q at t1 t2
   have g1 : L[v]? = some (L[v]'(by omega)) := List.getElem?_eq_getElem _
   obtain ⟨x, hx⟩ : ∃ x, L[v]? = some x := ⟨_, g1⟩
   obtain ⟨y, hy⟩ : ∃ y, (L.set v (w64 (x + 1)))[q]? = some y := ⟨_, List.getElem?_eq_getElem (by rw [List.length_set]; omega)⟩
   obtain ⟨c', out', e2, r1, r2, r3⟩ := ih (K + 2) (d0, d1, d2) ((L.set v (w64 (x + 1))).set q (w64 (y + 1))) hc (by omega) (by simp only [List.length_set]; omega) (by simp only [List.length_set]; omega) (by simp only [List.length_set]; omega)
   refine ⟨c', out', ?_, r1, r2, r3.mono (by omega)⟩
   simp only [F27_L2] at e2 ⊢
   rw [← e2]
   refine loopO_next ?_
   have a1 : (0 : Int) ≤ ((v + 1 : Nat) : Int) := by omega
   have a2 : 0 ≤ v + 1 ∧ v + 1 ≤ out.length := by omega
   have a3 : 0 + (v + 1 - 0) ≤ out.length := by omega
   have a4 : 2 * ((v + 1 + 1) * 9) ≤ 140737488355328 := by omega
   have a5 : v + 1 ≤ out.length ∧ out.length ≤ out.length := by omega
   have a6 : 0 + (v + 1) + (out.length - (v + 1)) ≤ out.length := by omega
   have a7 : 2 * ((v + 1 + 1 + (out.length - (v + 1))) * 9) ≤ 140737488355328 := by omega
   have a8 : (0 : Int) ≤ (v : Int) ∧ (v : Int) < ((v + 1 + 1 + (out.length - (v + 1)) : Nat) : Int) := by omega
   have a9 : ((v + 1 + 1 + (out.length - (v + 1)) : Nat) : Int) ≠ 0 := by omega
   have a10 : (0 : Int) ≤ (q : Int) ∧ (q : Int) < ((v + 1 + 1 + (out.length - (v + 1)) : Nat) : Int) := by omega
   rw [F27_L2_step, T.run_test, if_pos (decide_eq_true c9), T.run_sub, e, Option.bind_some]
   simp only [w1, Int.toNat_natCast, Nat.sub_zero, Nat.zero_add, ← hW1, ← hW2]
   rw [T.run_test, if_pos (decide_eq_true a1), T.run_test, if_pos (decide_eq_true a2), T.run_test, if_pos (decide_eq_true (by omega)), T.run_sub, ow, Option.bind_some]
   simp only [l1, l2, hwa, win_one, hw, w2, w3, Int.toNat_natCast, ← hL, List.length_append, List.length_singleton]
   have e0 : (((v + 1 : Nat) : Int) + 1 + ((out.length - (v + 1) : Nat) : Int)) = ((v + 1 + 1 + (out.length - (v + 1)) : Nat) : Int) := by push_cast; omega
   simp only [e0, t1, Int.toNat_natCast, List.length_set, hLl]
   rw [T.run_test, if_pos (by first | rfl | exact decide_eq_true (by omega))]
   rw [T.run_test, if_pos (by first | rfl | exact decide_eq_true (by omega))]
   rw [T.run_test, if_pos (by first | rfl | exact decide_eq_true (by omega))]
   rw [T.run_test, if_pos (by first | rfl | exact decide_eq_true (by omega))]
   rw [T.run_test, if_pos (by first | rfl | exact decide_eq_true (by omega))]
   rw [T.run_test, if_pos (by first | rfl | exact decide_eq_true (by omega))]
   rw [T.run_test, if_pos (by first | rfl | exact decide_eq_true (by omega))]
   rw [T.run_test, if_pos (by first | rfl | exact decide_eq_true (by omega))]
   rw [T.run_test, if_pos (by first | rfl | exact decide_eq_true (by omega))]
   rw [T.run_sub, hx, Option.bind_some]
   rw [T.run_test, if_pos (by first | rfl | exact decide_eq_true (by omega))]
   rw [T.run_sub, Option.bind_some]
   rw [T.run_test, if_pos (by first | rfl | exact decide_eq_true (by omega))]
   rw [T.run_test, if_pos (by first | rfl | exact decide_eq_true (by omega))]
   rw [T.run_sub, hy, Option.bind_some]
   rw [T.run_test, if_pos (by first | rfl | exact decide_eq_true (by omega))]
   rw [T.run_sub, Option.bind_some]
   rw [T.run_test, if_pos (by simp)]
   rfl
  ·refine ⟨_, out, ?_, h3, h20, h.mono (by omega)⟩
   simp only [F27_L2]
   exact loopO_done (by simp [F27_L2_step, T.run, c9])
theorem sureQ_ok {K : Int} {c : List Int × Int × Int} (n : Int) (hn : n ≤ 20) (h : curOK K c) (hK : K < 1000000000) :
  ∃ c' out', F27 (((), n), c) = some ((), (c', out')) ∧ 3 ≤ out'.length ∧ out'.length ≤ 20 ∧ curOK (K + 40) c' := by
 obtain ⟨c0, c1, c2⟩ := c
 obtain ⟨⟨d0, d1, d2⟩, out', e, h1, h2, h3⟩ := sureQ_loop n hn 17 K (c0, c1, c2) [1, 1, 1] h (by omega) (by simp) (by simp) (by simp)
 refine ⟨(d0, d1, d2), out', ?_, h1, h2, h3.mono (by omega)⟩
 rw [F27, F27_t, T.run_test, if_pos (by simp), T.run_sub, show (List.set (List.set (List.set (List.replicate 3 (0 : Int)) 0 (1 : Int)) 1 (1 : Int)) 2 (1 : Int)) = [1, 1, 1] from rfl, e, Option.bind_some, T.run_test, if_pos (by simp), T.run_ret]
def F113_sh : FSh := ⟨[(.one (.si .i64)), (.one (.si .i64)), (.one (.si .i64))], []⟩
def F113_fo : List FO := [⟨[(.one .sb)], []⟩]
noncomputable def F113_t : (Int × Int × Int) → T Bool := fun (n, lo, hi) =>
 (.test (decide (n ≥ lo))
 (.ret (decide (n ≤ hi)))
 (.ret false))
noncomputable def F113 (v) := (F113_t v).run
noncomputable def F113_E : TEnv := E0
theorem F113_Eok : (F113_E).OK := E0ok
noncomputable def F113_told : Nat → Option SealT := fun id => none
theorem F113_ok : FOK Tryz.prog n_F113 F113_sh F113_fo F113 :=
 fn_ok (E := F113_E) (F113_Eok) (told := F113_told) (fl := []) (c := bodyOf fn_F113) (s := F113_sh) (l := F113_fo) (tree := F113_t) fnat_F113 (by kernel_rfl) (by kernel_rfl) (by kernel_rfl) (loopsOK_of (ls := []) (by kernel_rfl) trivial) (fun v => by kernel_rfl)
theorem F113_eq (n low high : Int) : F113 (n, low, high) = some (inB low high n) := by
 simp only [F113, F113_t, T.run, ge_iff_le, decide_eq_true_eq, inB]
 by_cases h : low ≤ n <;> simp [h]
def F114_sh : FSh := ⟨[(.one (.si .i64))], []⟩
def F114_fo : List FO := [⟨[(.one .sb)], []⟩]
noncomputable def F114_t : Int → T Bool := fun n =>
 (.sub (F113 (n, ((3 : Int), (12 : Int)))) fun z0 =>
 (.ret z0))
noncomputable def F114 (v) := (F114_t v).run
noncomputable def F114_E : TEnv := (E0.add1 n_F113 F113_sh F113_fo F113)
theorem F114_Eok : (F114_E).OK := (E0ok.add1 F113_ok)
noncomputable def F114_told : Nat → Option SealT := fun id => none
theorem F114_ok : FOK Tryz.prog n_F114 F114_sh F114_fo F114 :=
 fn_ok (E := F114_E) (F114_Eok) (told := F114_told) (fl := []) (c := bodyOf fn_F114) (s := F114_sh) (l := F114_fo) (tree := F114_t) fnat_F114 (by kernel_rfl) (by kernel_rfl) (by kernel_rfl) (loopsOK_of (ls := []) (by kernel_rfl) trivial) (fun v => by kernel_rfl)
def F99_sh : FSh := ⟨[(.one (.sl (.int .i64) false false)), (.one (.si .i64)), (.one (.si .i64))], []⟩
def F99_L2_sh : LSh := ⟨(fun ex => match ex with | .norm => [(1, none), (2, none), (9, none), (10, none), (11, none)] | .exit i => if i = 0 then [] else [] | .ret => [(6, none)]), [(1, (.one (.si .i64))), (2, (.one (.si .i64))), (9, (.one (.sl (.int .i64) false false))), (10, (.one (.si .i64))), (11, (.one (.si .i64)))], [], [⟨.ret, [(6, (.one .sb))], []⟩, ⟨(.exit 0), [], []⟩], [], []⟩
noncomputable def F99_L2_step : (Int × Int × List (Int) × Int × Int) → T ((Int × Int × List (Int) × Int × Int) ⊕ (Bool ⊕ Unit)) := fun (lo, hi, t9, t10, t11) =>
 (.test (decide (t11 < t10))
 (.test (decide ((0 ≤ t11) ∧ (t11 < (t9.length : Int))))
 (.sub (t9[(Int.toNat t11)]?) fun z0 =>
 (.sub (F113 (z0, (lo, hi))) fun z1 =>
 (.test (! z1)
 (.ret (Sum.inr (Sum.inl false)))
 (.ret (Sum.inl (lo, (hi, (t9, (t10, (w64 (t11 + 1)))))))))))
 .fail)
 (.ret (Sum.inr (Sum.inr ()))))
noncomputable def F99_L2 (v) := loopO (fun v => (F99_L2_step v).run) v
def F99_fo : List FO := [⟨[(.one .sb)], []⟩]
noncomputable def F99_t : (List (Int) × Int × Int) → T Bool := fun (l, lo, hi) =>
 (.sub (F99_L2 (lo, (hi, (l, ((l.length : Int), (0 : Int)))))) fun z0 =>
 (.test (Sum.isLeft z0)
 (.sub (Sum.getLeft? z0) fun z1 =>
 (.ret z1))
 (.sub (Sum.getRight? z0) fun z2 =>
 (.ret true))))
noncomputable def F99 (v) := (F99_t v).run
noncomputable def F99_E : TEnv := (E0.add1 n_F113 F113_sh F113_fo F113)
theorem F99_Eok : (F99_E).OK := (E0ok.add1 F113_ok)
noncomputable def F99_told : Nat → Option SealT := fun id => if id = 2 then some (LSh.told F99_L2_sh 0 (F99_L2_step)) else none
theorem F99_L2_ok : ToldOK Tryz.prog 0 (loopAt (bodyOf fn_F99) [0]) (LSh.told F99_L2_sh 0 (F99_L2_step)) :=
 loop_ok (E := F99_E) (F99_Eok) (told := F99_told) (l := F99_L2_sh) (step := F99_L2_step) (loopsOK_of (ls := []) (by kernel_rfl) trivial) (by kernel_rfl) (fun v => by kernel_rfl)
theorem F99_ok : FOK Tryz.prog n_F99 F99_sh F99_fo F99 :=
 fn_ok (E := F99_E) (F99_Eok) (told := F99_told) (fl := []) (c := bodyOf fn_F99) (s := F99_sh) (l := F99_fo) (tree := F99_t) fnat_F99 (by kernel_rfl) (by kernel_rfl) (by kernel_rfl) (loopsOK_of (ls := [loopAt (bodyOf fn_F99) [0]]) (by kernel_rfl) ⟨.inr ⟨_, by kernel_rfl, F99_L2_ok⟩, trivial⟩) (fun v => by kernel_rfl)
theorem F99_eq (l : List Int) (lo hi : Int) (hl : l.length < 4611686018427387904) : F99 (l, lo, hi) = some (l.all (inB lo hi)) := by
 have h := loop_any (step := fun v => (F99_L2_step v).run) (xs := l) (fun n => !inB lo hi n) (fun k => (lo, hi, l, (l.length : Int), (k : Int))) (.inl false) (.inr ())
  (fun k x hx => by
   have hk := getElem?_lt hx
   simp only [F99_L2_step, T.run, F113_eq, Option.bind_some, Int.toNat_natCast, hx]
   rw [w64_id (by omega) (by omega)]
   cases inB lo hi x <;> simp [hk])
  (by simp [F99_L2_step, T.run])
 simp only [F99, F99_t, T.run, F99_L2]
 simp only [Int.natCast_zero] at h
 rw [h, ← all_any]
 cases hb : l.any (fun n => !inB lo hi n) <;> simp
def F78_sh : FSh := ⟨[(.one (.si .i64)), (.one (.si .i64))], []⟩
def F78_fo : List FO := [⟨[(.one (.si .i64))], []⟩]
noncomputable def F78_t : (Int × Int) → T Int := fun (a, b) =>
 (.test (decide (a < b))
 (.ret a)
 (.ret b))
noncomputable def F78 (v) := (F78_t v).run
noncomputable def F78_E : TEnv := E0
theorem F78_Eok : (F78_E).OK := E0ok
noncomputable def F78_told : Nat → Option SealT := fun id => none
theorem F78_ok : FOK Tryz.prog n_F78 F78_sh F78_fo F78 :=
 fn_ok (E := F78_E) (F78_Eok) (told := F78_told) (fl := []) (c := bodyOf fn_F78) (s := F78_sh) (l := F78_fo) (tree := F78_t) fnat_F78 (by kernel_rfl) (by kernel_rfl) (by kernel_rfl) (loopsOK_of (ls := []) (by kernel_rfl) trivial) (fun v => by kernel_rfl)
def F85_sh : FSh := ⟨[(.one (.si .i64)), (.one (.si .i64))], []⟩
def F85_fo : List FO := [⟨[(.one (.si .i64))], []⟩]
noncomputable def F85_t : (Int × Int) → T Int := fun (a, b) =>
 (.test (decide (a > b))
 (.ret a)
 (.ret b))
noncomputable def F85 (v) := (F85_t v).run
noncomputable def F85_E : TEnv := E0
theorem F85_Eok : (F85_E).OK := E0ok
noncomputable def F85_told : Nat → Option SealT := fun id => none
theorem F85_ok : FOK Tryz.prog n_F85 F85_sh F85_fo F85 :=
 fn_ok (E := F85_E) (F85_Eok) (told := F85_told) (fl := []) (c := bodyOf fn_F85) (s := F85_sh) (l := F85_fo) (tree := F85_t) fnat_F85 (by kernel_rfl) (by kernel_rfl) (by kernel_rfl) (loopsOK_of (ls := []) (by kernel_rfl) trivial) (fun v => by kernel_rfl)
abbrev Dg := Int × Int
def nbB (n i : Nat) : Nat := (i + n - 1) % n
def nbC (n i : Nat) : Nat := (i + 1) % n
def decAt (l : List Int) (p : Nat) : List Int := l.set p (w64 (l.getD p 0 - 1))
def cutL (l : List Int) (i : Nat) : List Int := (decAt (decAt l (nbB l.length i)) (nbC l.length i)).eraseIdx i
def cutD (names : List Int) (i : Nat) : Dg :=
 (min (names.getD (nbB names.length i) 0) (names.getD (nbC names.length i) 0), max (names.getD (nbB names.length i) 0) (names.getD (nbC names.length i) 0))
def ear (l : List Int) : Option Nat := l.findIdx? (fun x => (1 : Int) == x)
def okC (l : List Int) (i : Nat) : Bool := decide (1 ≤ w64 (l.getD (nbB l.length i) 0 - 1) ∧ 1 ≤ w64 (l.getD (nbC l.length i) 0 - 1))
def tri : Nat → List Int → List Int → Option (List Dg)
 | 0, l, _ => if l = [1, 1, 1] then some [] else none
 | k + 1, l, names => match ear l with
  | none => none
  | some i => (tri k (cutL l i) (names.eraseIdx i)).map (cutD names i :: ·)
def triS : Nat → List Int → List Int → Option (List Dg)
 | 0, l, _ => if l = [1, 1, 1] then some [] else none
 | k + 1, l, names => match ear l with
  | none => none
  | some i => if okC l i then (triS k (cutL l i) (names.eraseIdx i)).map (cutD names i :: ·) else none
def cntD (d : Dg) (m : Int) : Int := (if d.1 = m then 1 else 0) + (if d.2 = m then 1 else 0)
def cnt (ds : List Dg) (m : Int) : Int := ds.foldr (fun d s => cntD d m + s) 0
def crossD (d e : Dg) : Bool := (decide (d.1 < e.1) && decide (e.1 < d.2) && decide (d.2 < e.2)) || (decide (e.1 < d.1) && decide (d.1 < e.2) && decide (e.2 < d.2))
def Ends (names : List Int) (d : Dg) : Prop := d.1 ∈ names ∧ d.2 ∈ names ∧ d.1 < d.2 ∧ (∃ m ∈ names, d.1 < m ∧ m < d.2) ∧ (∃ m ∈ names, m < d.1 ∨ d.2 < m)
def Apart (d e : Dg) : Prop := d ≠ e ∧ crossD d e = false
def Good (names : List Int) (ds : List Dg) : Prop := (∀ d ∈ ds, Ends names d) ∧ ds.Pairwise Apart
theorem nb_facts {n i : Nat} (hn : 3 ≤ n) (hi : i < n) : nbB n i < n ∧ nbC n i < n ∧ nbB n i ≠ i ∧ nbC n i ≠ i ∧ nbB n i ≠ nbC n i ∧
  ((i = 0 ∧ nbB n i = n - 1 ∧ nbC n i = 1) ∨ (i = n - 1 ∧ nbB n i = n - 2 ∧ nbC n i = 0) ∨ (0 < i ∧ i < n - 1 ∧ nbB n i = i - 1 ∧ nbC n i = i + 1)) := by
 unfold nbB nbC
 by_cases h0 : i = 0
 ·subst h0
  rw [Nat.mod_eq_of_lt (by omega), Nat.mod_eq_of_lt (by omega)]
  omega
 ·rw [show i + n - 1 = (i - 1) + n by omega, Nat.add_mod_right, Nat.mod_eq_of_lt (by omega)]
  by_cases h1 : i = n - 1
  ·subst h1
   rw [show n - 1 + 1 = n by omega, Nat.mod_self]
   omega
  ·rw [Nat.mod_eq_of_lt (by omega)]
   omega
theorem ear_lt {l : List Int} {i : Nat} (h : ear l = some i) : i < l.length ∧ l[i]? = some 1 := by
 obtain ⟨h1, h2, _⟩ := List.findIdx?_eq_some_iff_getElem.1 h
 refine ⟨h1, ?_⟩
 rw [List.getElem?_eq_getElem h1]
 simp at h2
 rw [← h2]
theorem decAt_length (l : List Int) (p : Nat) : (decAt l p).length = l.length := by simp [decAt]
theorem cutL_length {l : List Int} {i : Nat} (h : i < l.length) : (cutL l i).length = l.length - 1 := by
 unfold cutL
 rw [List.length_eraseIdx, decAt_length, decAt_length, if_pos h]
def cutV (l : List Int) (i p : Nat) : Int := if p = nbB l.length i ∨ p = nbC l.length i then w64 (l.getD p 0 - 1) else l.getD p 0
theorem dec2_get {l : List Int} {i p : Nat} (hn : 3 ≤ l.length) (hi : i < l.length) (hp : p < l.length) :
  (decAt (decAt l (nbB l.length i)) (nbC l.length i))[p]? = some (cutV l i p) := by
 obtain ⟨h1, h2, h3, h4, h5, _⟩ := nb_facts hn hi
 unfold decAt cutV
 by_cases e1 : nbC l.length i = p
 ·subst e1
  rw [List.getElem?_set_self (by simpa using h2), if_pos (.inr rfl)]
  simp only [List.getD_eq_getElem?_getD, List.getElem?_set_ne h5]
 ·rw [List.getElem?_set_ne e1]
  by_cases e2 : nbB l.length i = p
  ·subst e2
   rw [List.getElem?_set_self h1, if_pos (.inl rfl)]
  ·rw [List.getElem?_set_ne e2, if_neg (by omega), List.getD_eq_getElem?_getD, List.getElem?_eq_getElem hp]
   rfl
theorem cutL_get {l : List Int} {i p : Nat} (hn : 3 ≤ l.length) (hi : i < l.length) (hp : p < l.length) (hpi : p ≠ i) :
  (cutL l i)[if p < i then p else p - 1]? = some (cutV l i p) := by
 unfold cutL
 rw [List.getElem?_eraseIdx]
 by_cases h : p < i
 ·simp only [h, if_true]
  exact dec2_get hn hi hp
 ·simp only [h, if_false]
  rw [if_neg (by omega), show p - 1 + 1 = p by omega]
  exact dec2_get hn hi hp
theorem erase_get {X : Type} {names : List X} {i p : Nat} (hpi : p ≠ i) : (names.eraseIdx i)[if p < i then p else p - 1]? = names[p]? := by
 rw [List.getElem?_eraseIdx]
 by_cases h : p < i
 ·simp [h]
 ·simp only [h, if_false]
  rw [if_neg (by omega), show p - 1 + 1 = p by omega]
theorem erase_mem {X : Type} {names : List X} {i : Nat} {m : X} (h : m ∈ names.eraseIdx i) : ∃ p, p ≠ i ∧ names[p]? = some m := by
 obtain ⟨j, hj1, hj2⟩ := List.mem_eraseIdx_iff_getElem?.1 h
 exact ⟨j, hj1, hj2⟩
theorem sorted_get {names : List Int} (hs : names.Pairwise (· < ·)) {p q : Nat} (h : p < q) {a b : Int} (ha : names[p]? = some a) (hb : names[q]? = some b) : a < b := by
 obtain ⟨h1, e1⟩ := List.getElem?_eq_some_iff.1 ha
 obtain ⟨h2, e2⟩ := List.getElem?_eq_some_iff.1 hb
 rw [← e1, ← e2]
 exact List.pairwise_iff_getElem.1 hs p q h1 h2 h
theorem sorted_inj {names : List Int} (hs : names.Pairwise (· < ·)) {p q : Nat} {a : Int} (ha : names[p]? = some a) (hb : names[q]? = some a) : p = q := by
 rcases Nat.lt_trichotomy p q with h | h | h
 ·have := sorted_get hs h ha hb; omega
 ·exact h
 ·have := sorted_get hs h hb ha; omega
theorem getD_some {X : Type} {l : List X} {p : Nat} {a d : X} (h : l[p]? = some a) : l.getD p d = a := by rw [List.getD_eq_getElem?_getD, h]; rfl
theorem cutD_facts {names : List Int} (hs : names.Pairwise (· < ·)) {i : Nat} (hn : 4 ≤ names.length) (hi : i < names.length) :
  Ends names (cutD names i) ∧ (cutD names i).1 ∈ names.eraseIdx i ∧ (cutD names i).2 ∈ names.eraseIdx i ∧
  ((∀ m ∈ names.eraseIdx i, ¬ ((cutD names i).1 < m ∧ m < (cutD names i).2)) ∨ (∀ m ∈ names.eraseIdx i, ¬ (m < (cutD names i).1 ∨ (cutD names i).2 < m))) ∧
  ∀ p m, names[p]? = some m → cntD (cutD names i) m = if p = nbB names.length i ∨ p = nbC names.length i then 1 else 0 := by
 obtain ⟨h1, h2, h3, h4, h5, h6⟩ := nb_facts (by omega : 3 ≤ names.length) hi
 have gb := List.getElem?_eq_getElem h1
 have gc := List.getElem?_eq_getElem h2
 have gi := List.getElem?_eq_getElem hi
 have hmem : ∀ p, p ≠ i → ∀ m, names[p]? = some m → m ∈ names.eraseIdx i := fun p hp m hm => List.mem_eraseIdx_iff_getElem?.2 ⟨p, hp, hm⟩
 have mb := hmem _ h3 _ gb
 have mc := hmem _ h4 _ gc
 have hD : cutD names i = (min names[nbB names.length i] names[nbC names.length i], max names[nbB names.length i] names[nbC names.length i]) := by
  unfold cutD; rw [getD_some gb, getD_some gc]
 have hE : ∀ {m}, m ∈ names.eraseIdx i → ∃ p, p ≠ i ∧ names[p]? = some m := fun h => erase_mem h
 have g0 := List.getElem?_eq_getElem (show 0 < names.length by omega)
 have g1 := List.getElem?_eq_getElem (show 1 < names.length by omega)
 have g2 := List.getElem?_eq_getElem (show 2 < names.length by omega)
 have gl := List.getElem?_eq_getElem (show names.length - 1 < names.length by omega)
 have key : ∀ a b : Int, (names[nbB names.length i] = a ∧ names[nbC names.length i] = b ∨ names[nbB names.length i] = b ∧ names[nbC names.length i] = a) → a < b → (cutD names i) = (a, b) := by
  intro a b h hab
  rw [hD]
  rcases h with ⟨e1, e2⟩ | ⟨e1, e2⟩ <;> rw [e1, e2] <;> simp only [Prod.mk.injEq] <;> constructor <;> omega
 have hcnt : ∀ p m, names[p]? = some m → cntD (cutD names i) m = if p = nbB names.length i ∨ p = nbC names.length i then 1 else 0 := by
  intro p m hm
  have e1 : p = nbB names.length i ↔ names[nbB names.length i] = m := ⟨fun e => by subst e; rw [gb] at hm; exact Option.some.inj hm, fun e => sorted_inj hs hm (by rw [gb, e])⟩
  have e2 : p = nbC names.length i ↔ names[nbC names.length i] = m := ⟨fun e => by subst e; rw [gc] at hm; exact Option.some.inj hm, fun e => sorted_inj hs hm (by rw [gc, e])⟩
  rw [hD]
  unfold cntD
  simp only []
  by_cases c1 : p = nbB names.length i
  ·have c2 : ¬ p = nbC names.length i := by omega
   have d1 := e1.1 c1
   have d2 : ¬ names[nbC names.length i] = m := fun e => c2 (e2.2 e)
   simp only [c1, true_or, if_true]
   split <;> split <;> omega
  ·have d1 : ¬ names[nbB names.length i] = m := fun e => c1 (e1.2 e)
   by_cases c2 : p = nbC names.length i
   ·have d2 := e2.1 c2
    simp only [c2, or_true, if_true]
    split <;> split <;> omega
   ·have d2 : ¬ names[nbC names.length i] = m := fun e => c2 (e2.2 e)
    rw [if_neg (by omega : ¬ (p = nbB names.length i ∨ p = nbC names.length i))]
    split <;> split <;> omega
 rcases h6 with ⟨hi0, hb, hc⟩ | ⟨hi0, hb, hc⟩ | ⟨hi0, hi1, hb, hc⟩
 ·have lt1 := sorted_get hs (show nbC names.length i < nbB names.length i by omega) gc gb
  have e := key _ _ (.inr ⟨rfl, rfl⟩) lt1
  rw [e]
  refine ⟨⟨List.mem_of_getElem? gc, List.mem_of_getElem? gb, lt1, ⟨_, List.mem_of_getElem? g2, sorted_get hs (by omega) gc g2, sorted_get hs (by omega) g2 gb⟩, ⟨_, List.mem_of_getElem? g0, .inl (sorted_get hs (by omega) g0 gc)⟩⟩, mc, mb, .inr ?_, ?_⟩
  ·intro m hm
   obtain ⟨p, hp, hpm⟩ := hE hm
   have := getElem?_lt hpm
   rintro (h | h)
   ·have : ¬ nbC names.length i ≤ p := by
     intro hle
     rcases Nat.lt_or_eq_of_le hle with h' | h'
     ·have := sorted_get hs h' gc hpm; simp only [] at h; omega
     ·subst h'; rw [gc] at hpm; have := Option.some.inj hpm; simp only [] at h; omega
    omega
   ·have : ¬ p ≤ nbB names.length i := by
     intro hle
     rcases Nat.lt_or_eq_of_le hle with h' | h'
     ·have := sorted_get hs h' hpm gb; simp only [] at h; omega
     ·subst h'; rw [gb] at hpm; have := Option.some.inj hpm; simp only [] at h; omega
    omega
  ·rw [← e]; exact hcnt
 ·have lt1 := sorted_get hs (show nbC names.length i < nbB names.length i by omega) gc gb
  have e := key _ _ (.inr ⟨rfl, rfl⟩) lt1
  rw [e]
  refine ⟨⟨List.mem_of_getElem? gc, List.mem_of_getElem? gb, lt1, ⟨_, List.mem_of_getElem? g1, sorted_get hs (by omega) gc g1, sorted_get hs (by omega) g1 gb⟩, ⟨_, List.mem_of_getElem? gl, .inr (sorted_get hs (by omega) gb gl)⟩⟩, mc, mb, .inr ?_, ?_⟩
  ·intro m hm
   obtain ⟨p, hp, hpm⟩ := hE hm
   have := getElem?_lt hpm
   rintro (h | h)
   ·have : ¬ nbC names.length i ≤ p := by
     intro hle
     rcases Nat.lt_or_eq_of_le hle with h' | h'
     ·have := sorted_get hs h' gc hpm; simp only [] at h; omega
     ·subst h'; rw [gc] at hpm; have := Option.some.inj hpm; simp only [] at h; omega
    omega
   ·have : ¬ p ≤ nbB names.length i := by
     intro hle
     rcases Nat.lt_or_eq_of_le hle with h' | h'
     ·have := sorted_get hs h' hpm gb; simp only [] at h; omega
     ·subst h'; rw [gb] at hpm; have := Option.some.inj hpm; simp only [] at h; omega
    omega
  ·rw [← e]; exact hcnt
 ·have lt1 := sorted_get hs (show nbB names.length i < nbC names.length i by omega) gb gc
  have e := key _ _ (.inl ⟨rfl, rfl⟩) lt1
  rw [e]
  refine ⟨⟨List.mem_of_getElem? gb, List.mem_of_getElem? gc, lt1, ⟨_, List.mem_of_getElem? gi, sorted_get hs (by omega) gb gi, sorted_get hs (by omega) gi gc⟩, ?_⟩, mb, mc, .inl ?_, ?_⟩
  ·by_cases hz : 0 < nbB names.length i
   ·exact ⟨_, List.mem_of_getElem? g0, .inl (sorted_get hs hz g0 gb)⟩
   ·exact ⟨_, List.mem_of_getElem? gl, .inr (sorted_get hs (by omega) gc gl)⟩
  ·intro m hm
   obtain ⟨p, hp, hpm⟩ := hE hm
   have := getElem?_lt hpm
   rintro ⟨ha, hb'⟩
   have c1 : nbB names.length i < p := by
    rcases Nat.lt_trichotomy (nbB names.length i) p with h' | h' | h'
    ·exact h'
    ·subst h'; rw [gb] at hpm; have := Option.some.inj hpm; simp only [] at ha; omega
    ·have := sorted_get hs h' hpm gb; simp only [] at ha; omega
   have c2 : p < nbC names.length i := by
    rcases Nat.lt_trichotomy p (nbC names.length i) with h' | h' | h'
    ·exact h'
    ·subst h'; rw [gc] at hpm; have := Option.some.inj hpm; simp only [] at hb'; omega
    ·have := sorted_get hs h' gc hpm; simp only [] at hb'; omega
   omega
  ·rw [← e]; exact hcnt
theorem Ends.mono {names names' : List Int} (h : ∀ m ∈ names', m ∈ names) {d : Dg} (hd : Ends names' d) : Ends names d := by
 obtain ⟨a, b, c, ⟨m, hm, hm'⟩, ⟨q, hq, hq'⟩⟩ := hd
 exact ⟨h _ a, h _ b, c, ⟨m, h _ hm, hm'⟩, ⟨q, h _ hq, hq'⟩⟩
theorem tri_good : ∀ (k : Nat) (l names : List Int) (ds : List Dg), names.Pairwise (· < ·) → l.length = k + 3 → names.length = k + 3 → tri k l names = some ds → ds.length = k ∧ Good names ds
 | 0, l, names, ds, hs, hl, hn, h => by
  unfold tri at h
  split at h
  ·cases h; exact ⟨rfl, by simp, by simp⟩
  ·cases h
 | k + 1, l, names, ds, hs, hl, hn, h => by
  unfold tri at h
  cases he : ear l with
  | none => rw [he] at h; cases h
  | some i =>
   rw [he] at h
   simp only [] at h
   obtain ⟨hi, _⟩ := ear_lt he
   obtain ⟨ds', h1, h2⟩ := Option.map_eq_some_iff.1 h
   subst h2
   have hE : (names.eraseIdx i).length = k + 3 := by rw [List.length_eraseIdx, if_pos (by omega)]; omega
   have hsub : ∀ m ∈ names.eraseIdx i, m ∈ names := fun m hm => List.mem_of_mem_eraseIdx hm
   obtain ⟨g1, g2, g3⟩ := tri_good k (cutL l i) (names.eraseIdx i) ds' (hs.sublist (List.eraseIdx_sublist ..)) (by rw [cutL_length hi]; omega) hE h1
   obtain ⟨f1, f2, f3, f4, f5⟩ := cutD_facts hs (by omega) (show i < names.length by omega)
   refine ⟨by simp [g1], fun d hd => ?_, ?_⟩
   ·rcases List.mem_cons.1 hd with rfl | hd
    ·exact f1
    ·exact (g2 d hd).mono hsub
   ·refine List.pairwise_cons.2 ⟨fun e he' => ?_, g3⟩
    obtain ⟨q1, q2, q3, ⟨m, q4, q5⟩, ⟨m', q6, q7⟩⟩ := g2 e he'
    generalize cutD names i = d at *
    constructor
    ·rintro rfl
     rcases f4 with f4 | f4
     ·exact f4 m q4 q5
     ·exact f4 m' q6 q7
    ·unfold crossD
     rcases f4 with f4 | f4
     ·have a1 := f4 _ q1
      have a2 := f4 _ q2
      simp
      constructor <;> intro h1 h2 <;> omega
     ·have a1 := f4 _ q1
      have a2 := f4 _ q2
      simp
      constructor <;> intro h1 h2 <;> omega
theorem cnt_nn (ds : List Dg) (m : Int) : 0 ≤ cnt ds m ∧ cnt ds m ≤ 2 * ds.length := by
 induction ds with
 | nil => simp [cnt]
 | cons d t ih =>
  have : cnt (d :: t) m = cntD d m + cnt t m := rfl
  rw [this, List.length_cons]
  unfold cntD
  split <;> split <;> omega
theorem cnt_zero (ds : List Dg) (m : Int) (h : ∀ d ∈ ds, d.1 ≠ m ∧ d.2 ≠ m) : cnt ds m = 0 := by
 induction ds with
 | nil => simp [cnt]
 | cons d t ih =>
  have e : cnt (d :: t) m = cntD d m + cnt t m := rfl
  have := h d (by simp)
  rw [e, ih (fun d hd => h d (by simp [hd]))]
  unfold cntD
  rw [if_neg this.1, if_neg this.2]
  rfl
def Cnts (l names : List Int) (ds : List Dg) : Prop := ∀ (p : Nat) (v m : Int), l[p]? = some v → names[p]? = some m → v = 1 + cnt ds m
theorem good_ne {names : List Int} {ds : List Dg} (g : Good names ds) {m : Int} (h : m ∉ names) : cnt ds m = 0 :=
 cnt_zero ds m fun d hd => ⟨fun e => h (e ▸ (g.1 d hd).1), fun e => h (e ▸ (g.1 d hd).2.1)⟩
theorem cut_cnts {k : Nat} {l names : List Int} {i : Nat} {ds : List Dg} (hs : names.Pairwise (· < ·)) (hl : l.length = k + 4) (hn : names.length = k + 4) (hi : ear l = some i) (g : Good (names.eraseIdx i) ds)
  (hw : ∀ p, p < l.length → w64 (l.getD p 0 - 1) = l.getD p 0 - 1) : Cnts (cutL l i) (names.eraseIdx i) ds ↔ Cnts l names (cutD names i :: ds) := by
 obtain ⟨hil, hi1⟩ := ear_lt hi
 obtain ⟨h1, h2, h3, h4, h5, h6⟩ := nb_facts (by omega : 3 ≤ l.length) hil
 obtain ⟨f1, f2, f3, f4, f5⟩ := cutD_facts hs (by omega) (show i < names.length by omega)
 have hcv : ∀ p m, p < l.length → names[p]? = some m → cutV l i p = l.getD p 0 - cntD (cutD names i) m := by
  intro p m hp hm
  rw [f5 p m hm, hn, ← hl]
  unfold cutV
  rw [hw p hp]
  split <;> simp
 constructor
 ·intro h p v m hv hm
  have e : cnt (cutD names i :: ds) m = cntD (cutD names i) m + cnt ds m := rfl
  rw [e]
  have hp := getElem?_lt hv
  by_cases hpi : p = i
  ·subst hpi
   rw [hi1] at hv
   cases hv
   have := f5 p m hm
   rw [hn, ← hl, if_neg (by omega)] at this
   rw [this, good_ne g]
   ·rfl
   ·intro hmem
    obtain ⟨q, hq, hqm⟩ := erase_mem hmem
    exact hq (sorted_inj hs hqm hm)
  ·have := h (if p < i then p else p - 1) (cutV l i p) m (cutL_get (by omega) hil hp hpi) (by rw [erase_get hpi]; exact hm)
   rw [hcv p m hp hm, getD_some hv] at this
   omega
 ·intro h p' v m hv hm
  have hp' := getElem?_lt hv
  rw [cutL_length hil] at hp'
  obtain ⟨p, hpi, hpp, hp⟩ : ∃ p, p ≠ i ∧ (if p < i then p else p - 1) = p' ∧ p < l.length := by
   by_cases hh : p' < i
   ·exact ⟨p', by omega, by rw [if_pos hh], by omega⟩
   ·exact ⟨p' + 1, by omega, by rw [if_neg (by omega)]; omega, by omega⟩
  rw [← hpp] at hv hm
  rw [cutL_get (by omega) hil hp hpi] at hv
  rw [erase_get hpi] at hm
  cases hv
  rw [hcv p m hp hm]
  have := h p (l.getD p 0) m (by rw [List.getElem?_eq_getElem hp, List.getD_eq_getElem?_getD, List.getElem?_eq_getElem hp]; rfl) hm
  have e : cnt (cutD names i :: ds) m = cntD (cutD names i) m + cnt ds m := rfl
  omega
theorem triS_tri : ∀ (k : Nat) (l names : List Int) (ds : List Dg), names.Pairwise (· < ·) → l.length = k + 3 → names.length = k + 3 → (∀ v ∈ l, 1 ≤ v ∧ v ≤ 4611686018427387904) → triS k l names = some ds → tri k l names = some ds ∧ Cnts l names ds
 | 0, l, names, ds, hs, hl, hn, hb, h => by
  unfold triS at h
  refine ⟨by unfold tri; exact h, ?_⟩
  split at h
  ·rename_i e
   cases h
   intro p v m hv hm
   have := List.mem_of_getElem? hv
   rw [e] at this
   simp at this
   rw [this]; rfl
  ·cases h
 | k + 1, l, names, ds, hs, hl, hn, hb, h => by
  unfold triS at h
  cases he : ear l with
  | none => rw [he] at h; cases h
  | some i =>
   rw [he] at h
   simp only [] at h
   split at h
   ·rename_i hok
    obtain ⟨hi, _⟩ := ear_lt he
    obtain ⟨n1, n2, n3, n4, n5, n6⟩ := nb_facts (by omega : 3 ≤ l.length) hi
    obtain ⟨ds', h1, h2⟩ := Option.map_eq_some_iff.1 h
    subst h2
    have hE : (names.eraseIdx i).length = k + 3 := by rw [List.length_eraseIdx, if_pos (by omega)]; omega
    have hgd : ∀ p, p < l.length → 1 ≤ l.getD p 0 ∧ l.getD p 0 ≤ 4611686018427387904 := by
     intro p hp
     rw [List.getD_eq_getElem?_getD, List.getElem?_eq_getElem hp]
     exact hb _ (List.getElem_mem hp)
    have hw : ∀ p, p < l.length → w64 (l.getD p 0 - 1) = l.getD p 0 - 1 := by
     intro p hp
     have := hgd p hp
     exact w64_id (by omega) (by omega)
    have hb' : ∀ v ∈ cutL l i, 1 ≤ v ∧ v ≤ 4611686018427387904 := by
     intro v hv
     obtain ⟨p', hp'⟩ := List.mem_iff_getElem?.1 hv
     have hlt := getElem?_lt hp'
     rw [cutL_length hi] at hlt
     obtain ⟨p, hpi, hpp, hp⟩ : ∃ p, p ≠ i ∧ (if p < i then p else p - 1) = p' ∧ p < l.length := by
      by_cases hh : p' < i
      ·exact ⟨p', by omega, by rw [if_pos hh], by omega⟩
      ·exact ⟨p' + 1, by omega, by rw [if_neg (by omega)]; omega, by omega⟩
     rw [← hpp, cutL_get (by omega) hi hp hpi] at hp'
     cases hp'
     unfold okC at hok
     have hok := of_decide_eq_true hok
     have := hgd p hp
     unfold cutV
     split
     ·rename_i hh
      rcases hh with rfl | rfl
      ·refine ⟨hok.1, ?_⟩
       rw [hw _ hp]; omega
      ·refine ⟨hok.2, ?_⟩
       rw [hw _ hp]; omega
     ·exact this
    obtain ⟨g1, g2⟩ := triS_tri k (cutL l i) (names.eraseIdx i) ds' (hs.sublist (List.eraseIdx_sublist ..)) (by rw [cutL_length hi]; omega) hE hb' h1
    have g := (tri_good k _ _ _ (hs.sublist (List.eraseIdx_sublist ..)) (by rw [cutL_length hi]; omega) hE g1).2
    refine ⟨?_, (cut_cnts hs hl hn he g hw).1 g2⟩
    unfold tri
    rw [he]
    simp only []
    rw [g1]
    rfl
   ·cases h
theorem tri_triS : ∀ (k : Nat) (l names : List Int) (ds : List Dg), names.Pairwise (· < ·) → l.length = k + 3 → names.length = k + 3 → k < 1000000 → tri k l names = some ds → Cnts l names ds → triS k l names = some ds
 | 0, l, names, ds, hs, hl, hn, hk, h, hc => by
  unfold tri at h
  unfold triS
  exact h
 | k + 1, l, names, ds, hs, hl, hn, hk, h, hc => by
  have hlen := (tri_good _ _ _ _ hs hl hn h).1
  unfold tri at h
  unfold triS
  cases he : ear l with
  | none => rw [he] at h; cases h
  | some i =>
   rw [he] at h
   simp only [] at h ⊢
   obtain ⟨hi, _⟩ := ear_lt he
   obtain ⟨n1, n2, n3, n4, n5, n6⟩ := nb_facts (by omega : 3 ≤ l.length) hi
   obtain ⟨ds', h1, h2⟩ := Option.map_eq_some_iff.1 h
   subst h2
   have hE : (names.eraseIdx i).length = k + 3 := by rw [List.length_eraseIdx, if_pos (by omega)]; omega
   have g := (tri_good k _ _ _ (hs.sublist (List.eraseIdx_sublist ..)) (by rw [cutL_length hi]; omega) hE h1).2
   obtain ⟨f1, f2, f3, f4, f5⟩ := cutD_facts hs (by omega) (show i < names.length by omega)
   have hgd : ∀ p (hp : p < l.length), l.getD p 0 = 1 + (cntD (cutD names i) (names[p]'(by omega)) + cnt ds' (names[p]'(by omega))) := by
    intro p hp
    rw [List.getD_eq_getElem?_getD, List.getElem?_eq_getElem hp]
    exact hc p _ _ (List.getElem?_eq_getElem hp) (List.getElem?_eq_getElem (by omega))
   have hw : ∀ p, p < l.length → w64 (l.getD p 0 - 1) = l.getD p 0 - 1 := by
    intro p hp
    have e := hgd p hp
    have c1 := cnt_nn ds' (names[p]'(by omega))
    have c2 : cntD (cutD names i) (names[p]'(by omega)) ≤ 2 ∧ 0 ≤ cntD (cutD names i) (names[p]'(by omega)) := by unfold cntD; split <;> split <;> omega
    rw [List.length_cons] at hlen
    rw [w64_id (by omega) (by omega)]
   have hok : okC l i = true := by
    unfold okC
    refine decide_eq_true ⟨?_, ?_⟩
    ·rw [hw _ n1, hgd _ n1, f5 _ _ (List.getElem?_eq_getElem (by omega)), if_pos (.inl (by rw [hn, hl]))]
     have := cnt_nn ds' (names[nbB l.length i]'(by omega))
     omega
    ·rw [hw _ n2, hgd _ n2, f5 _ _ (List.getElem?_eq_getElem (by omega)), if_pos (.inr (by rw [hn, hl]))]
     have := cnt_nn ds' (names[nbC l.length i]'(by omega))
     omega
   rw [if_pos hok, tri_triS k _ _ _ (hs.sublist (List.eraseIdx_sublist ..)) (by rw [cutL_length hi]; omega) hE (by omega) h1 ((cut_cnts hs hl hn he g hw).2 hc)]
   rfl
def ltD (d e : Dg) : Bool := decide (d.1 < e.1 ∨ d.1 = e.1 ∧ d.2 < e.2)
def leD (d e : Dg) : Bool := !ltD e d
def cmpD (d e : Dg) : Int := if ltD d e then -1 else if ltD e d then 1 else 0
theorem leD_iff {d e : Dg} : leD d e = true ↔ d.1 < e.1 ∨ d.1 = e.1 ∧ d.2 ≤ e.2 := by
 unfold leD ltD; simp; omega
theorem ltD_iff {d e : Dg} : ltD d e = true ↔ d.1 < e.1 ∨ d.1 = e.1 ∧ d.2 < e.2 := by
 unfold ltD; simp
theorem leD_trans {a b c : Dg} (h1 : leD a b = true) (h2 : leD b c = true) : leD a c = true := by
 rw [leD_iff] at *; omega
theorem leD_anti {a b : Dg} (h1 : leD a b = true) (h2 : leD b a = true) : a = b := by
 rw [leD_iff] at *
 exact Prod.ext (by omega) (by omega)
theorem leD_of_lt {a b : Dg} (h : ltD a b = true) : leD a b = true := by
 rw [leD_iff]; rw [ltD_iff] at h; omega
theorem leD_of_not {a b : Dg} (h : ltD a b = false) : leD b a = true := by unfold leD; rw [h]; rfl
def SortedD (l : List Dg) : Prop := l.Pairwise fun a b => leD a b = true
theorem sorted_unique {l m : List Dg} (h1 : SortedD l) (h2 : SortedD m) (hp : l.Perm m) : l = m :=
 List.Perm.eq_of_pairwise (fun a b _ _ h1 h2 => leD_anti h1 h2) h1 h2 hp
def insD (d : Dg) (l : List Dg) : List Dg := l.takeWhile (ltD · d) ++ d :: l.dropWhile (ltD · d)
theorem insD_perm (d : Dg) (l : List Dg) : (insD d l).Perm (d :: l) := by
 unfold insD
 have h := List.perm_middle (a := d) (l₁ := l.takeWhile (ltD · d)) (l₂ := l.dropWhile (ltD · d))
 rwa [List.takeWhile_append_dropWhile] at h
theorem insD_sorted (d : Dg) : ∀ {l : List Dg}, SortedD l → SortedD (insD d l)
 | [], _ => by simp [insD, SortedD]
 | x :: t, h => by
  obtain ⟨h1, h2⟩ := List.pairwise_cons.1 h
  unfold insD
  cases hx : ltD x d with
  | true =>
   rw [List.takeWhile_cons, List.dropWhile_cons]
   simp only [hx, if_true, List.cons_append]
   refine List.pairwise_cons.2 ⟨fun y hy => ?_, insD_sorted d h2⟩
   have : y ∈ d :: t := (insD_perm d t).mem_iff.1 hy
   rcases List.mem_cons.1 this with rfl | hy
   ·exact leD_of_lt hx
   ·exact h1 y hy
  | false =>
   rw [List.takeWhile_cons, List.dropWhile_cons]
   simp only [hx, Bool.false_eq_true, if_false, List.nil_append]
   refine List.pairwise_cons.2 ⟨fun y hy => ?_, h⟩
   rcases List.mem_cons.1 hy with rfl | hy
   ·exact leD_of_not hx
   ·exact leD_trans (leD_of_not hx) (h1 y hy)
def sortD (l : List Dg) : List Dg := l.foldl (fun out d => insD d out) []
theorem sortD_go : ∀ (l out : List Dg), SortedD out → SortedD (l.foldl (fun out d => insD d out) out) ∧ (l.foldl (fun out d => insD d out) out).Perm (out ++ l)
 | [], out, h => ⟨h, by simp⟩
 | d :: l, out, h => by
  obtain ⟨h1, h2⟩ := sortD_go l (insD d out) (insD_sorted d h)
  refine ⟨h1, h2.trans ?_⟩
  exact ((insD_perm d out).append_right l).trans (by simpa using (List.perm_middle (a := d) (l₁ := out) (l₂ := l)).symm)
theorem sortD_sorted (l : List Dg) : SortedD (sortD l) := (sortD_go l [] (by simp [SortedD])).1
theorem sortD_perm (l : List Dg) : (sortD l).Perm l := by have h := (sortD_go l [] (by simp [SortedD])).2; rwa [List.nil_append] at h
theorem sortD_length (l : List Dg) : (sortD l).length = l.length := (sortD_perm l).length_eq
def gD (l : List Dg) (p : Nat) : Dg := l.getD p (0, 0)
def swapD (l : List Dg) (j : Nat) : List Dg := (l.set (j + 1) (gD l j)).set j (gD l (j + 1))
def sinkD : Nat → List Dg → List Dg
 | 0, l => l
 | j + 1, l => if ltD (gD l (j + 1)) (gD l j) then sinkD j (swapD l j) else l
theorem gD_eq {l : List Dg} {p : Nat} (h : p < l.length) : gD l p = l[p] := by unfold gD; rw [List.getD_eq_getElem?_getD, List.getElem?_eq_getElem h]; rfl
theorem gD_some {l : List Dg} {p : Nat} (h : p < l.length) : l[p]? = some (gD l p) := by rw [gD_eq h, List.getElem?_eq_getElem h]
theorem swapD_length (l : List Dg) (j : Nat) : (swapD l j).length = l.length := by simp [swapD]
theorem sinkD_length : ∀ (j : Nat) (l : List Dg), (sinkD j l).length = l.length
 | 0, l => rfl
 | j + 1, l => by
  unfold sinkD
  split
  ·rw [sinkD_length, swapD_length]
  ·rfl
theorem swapD_perm {l : List Dg} {j : Nat} (h : j + 1 < l.length) : (swapD l j).Perm l := by
 unfold swapD
 rw [gD_eq h, gD_eq (by omega)]
 exact List.set_set_perm (by omega) (by omega)
theorem sinkD_perm : ∀ {j : Nat} {l : List Dg}, j < l.length → (sinkD j l).Perm l
 | 0, l, _ => .refl _
 | j + 1, l, h => by
  unfold sinkD
  split
  ·exact (sinkD_perm (by rw [swapD_length]; omega)).trans (swapD_perm h)
  ·exact .refl _
theorem swapD_get {l : List Dg} {j p : Nat} (h : j + 1 < l.length) : gD (swapD l j) p = if p = j then gD l (j + 1) else if p = j + 1 then gD l j else gD l p := by
 unfold swapD
 conv => lhs; unfold gD
 simp only [List.getD_eq_getElem?_getD]
 by_cases e1 : p = j
 ·subst e1
  rw [List.getElem?_set_self (by simp; omega), if_pos rfl]; rfl
 ·rw [List.getElem?_set_ne (fun e => e1 e.symm), if_neg e1]
  by_cases e2 : p = j + 1
  ·subst e2
   rw [List.getElem?_set_self h, if_pos rfl]; rfl
  ·rw [List.getElem?_set_ne (fun e => e2 e.symm), if_neg e2]
   unfold gD; rw [List.getD_eq_getElem?_getD]
def SUp (l : List Dg) (i : Nat) : Prop := ∀ p q, p < q → q ≤ i → leD (gD l p) (gD l q) = true
theorem sinkD_up : ∀ (j : Nat) (l : List Dg) (i : Nat), j < l.length → j ≤ i → (∀ p q, p < q → q ≤ i → p ≠ j → q ≠ j → leD (gD l p) (gD l q) = true) → (∀ q, j < q → q ≤ i → leD (gD l j) (gD l q) = true) → SUp (sinkD j l) i
 | 0, l, i, hl, hi, h1, h2 => by
  intro p q hpq hq
  by_cases e : p = 0
  ·subst e; exact h2 q hpq hq
  ·exact h1 p q hpq hq e (by omega)
 | j + 1, l, i, hl, hi, h1, h2 => by
  unfold sinkD
  cases hlt : ltD (gD l (j + 1)) (gD l j) with
  | true =>
   simp only [if_true]
   refine sinkD_up j (swapD l j) i (by rw [swapD_length]; omega) (by omega) (fun p q hpq hq hp hq' => ?_) (fun q hq hqi => ?_)
   ·rw [swapD_get hl, swapD_get hl, if_neg hp, if_neg hq']
    by_cases e1 : p = j + 1
    ·rw [if_pos e1, if_neg (by omega)]
     exact h1 j q (by omega) hq (by omega) (by omega)
    ·rw [if_neg e1]
     by_cases e2 : q = j + 1
     ·rw [if_pos e2]
      exact h1 p j (by omega) (by omega) e1 (by omega)
     ·rw [if_neg e2]
      exact h1 p q hpq hq e1 e2
   ·rw [swapD_get hl, swapD_get hl, if_pos rfl, if_neg (by omega)]
    by_cases e2 : q = j + 1
    ·rw [if_pos e2]; exact leD_of_lt hlt
    ·rw [if_neg e2]; exact h2 q (by omega) hqi
  | false =>
   simp only [Bool.false_eq_true, if_false]
   intro p q hpq hq
   by_cases e1 : p = j + 1
   ·subst e1; exact h2 q hpq hq
   ·by_cases e2 : q = j + 1
    ·subst e2
     have := leD_of_not hlt
     by_cases e3 : p = j
     ·subst e3; exact this
     ·exact leD_trans (h1 p j (by omega) (by omega) e1 (by omega)) this
    ·exact h1 p q hpq hq e1 e2
def isortD : Nat → Nat → List Dg → List Dg
 | 0, _, l => l
 | n + 1, i, l => isortD n (i + 1) (sinkD i l)
theorem isortD_spec : ∀ (n i : Nat) (l : List Dg), 0 < i → i + n = l.length → SUp l (i - 1) → SUp (isortD n i l) (l.length - 1) ∧ (isortD n i l).Perm l
 | 0, i, l, hi, hl, h => by
  refine ⟨?_, .refl _⟩
  rw [← hl]
  exact h
 | n + 1, i, l, hi, hl, h => by
  have hs := sinkD_up i l i (by omega) (Nat.le_refl _) (fun p q hpq hq hp hq' => h p q hpq (by omega)) (fun q h1 h2 => by omega)
  obtain ⟨h1, h2⟩ := isortD_spec n (i + 1) (sinkD i l) (by omega) (by rw [sinkD_length]; omega) (by simpa using hs)
  rw [sinkD_length] at h1
  exact ⟨h1, h2.trans (sinkD_perm (by omega))⟩
theorem isortD_eq (l : List Dg) : isortD (l.length - 1) 1 l = sortD l := by
 by_cases h0 : l.length = 0
 ·have : l = [] := List.eq_nil_of_length_eq_zero h0
  subst this; rfl
 obtain ⟨h1, h2⟩ := isortD_spec (l.length - 1) 1 l (by omega) (by omega) (fun p q h1 h2 => by omega)
 refine sorted_unique ?_ (sortD_sorted l) (h2.trans (sortD_perm l).symm)
 unfold SortedD
 rw [List.pairwise_iff_getElem]
 intro p q hp hq hpq
 have hlen := h2.length_eq
 have := h1 p q hpq (by omega)
 rwa [gD_eq hp, gD_eq hq] at this
theorem take_while_idx (d : Dg) : ∀ (l : List Dg), ∃ k, k ≤ l.length ∧ l.takeWhile (ltD · d) = l.take k ∧ l.dropWhile (ltD · d) = l.drop k ∧ (∀ p, p < k → ltD (gD l p) d = true) ∧ (k < l.length → ltD (gD l k) d = false)
 | [] => ⟨0, by simp, by simp, by simp, by simp, by simp⟩
 | x :: t => by
  cases hx : ltD x d with
  | false => exact ⟨0, by simp, by simp [hx], by simp [hx], by simp, by simp [gD, hx]⟩
  | true =>
   obtain ⟨k, h1, h2, h3, h4, h5⟩ := take_while_idx d t
   refine ⟨k + 1, by simpa using h1, by simp [hx, h2], by simp [hx, h3], fun p hp => ?_, fun hk => ?_⟩
   ·cases p with
    | zero => simpa [gD] using hx
    | succ p => simpa [gD] using h4 p (by omega)
   ·simpa [gD] using h5 (by simpa using hk)
def inDg (n : Int) (d : Dg) : Bool := inB 0 (n - 1) d.1 && inB 0 (n - 1) d.2 && decide (d.2 - d.1 > 1) && !(d.1 == 0 && d.2 == n - 1)
def badT (n : Int) (ds : List Dg) (k : Nat) : Bool := !inDg n (gD ds k) || (decide (0 < k) && !ltD (gD ds (k - 1)) (gD ds k)) || (ds.take k).any (crossD (gD ds k))
def isTri (n : Int) (ds : List Dg) : Bool := inB 3 12 n && decide ((ds.length : Int) = n - 3) && !(List.range ds.length).any (badT n ds)
theorem isTri_iff (n : Int) (ds : List Dg) : isTri n ds = true ↔ (3 ≤ n ∧ n ≤ 12) ∧ (ds.length : Int) = n - 3 ∧ (∀ d ∈ ds, inDg n d = true) ∧ ds.Pairwise (fun d e => ltD d e = true ∧ crossD e d = false) := by
 unfold isTri
 simp only [Bool.and_eq_true, inB_iff, decide_eq_true_eq, Bool.not_eq_true', and_assoc]
 refine and_congr_right fun h1 => and_congr_right fun h2 => and_congr_right fun h3 => ?_
 rw [List.any_eq_false]
 simp only [List.mem_range, badT, Bool.or_eq_true, Bool.not_eq_true', Bool.and_eq_true, decide_eq_true_eq, not_or, not_and, Bool.not_eq_false, Bool.not_eq_true]
 have ltT : ∀ {a b c : Dg}, ltD a b = true → ltD b c = true → ltD a c = true := by
  intro a b c h1 h2; rw [ltD_iff] at *; omega
 constructor
 ·intro h
  refine ⟨fun d hd => ?_, ?_⟩
  ·obtain ⟨k, hk, e⟩ := List.getElem_of_mem hd
   have := (h k hk).1.1
   rwa [gD_eq hk, e] at this
  ·have up : ∀ m p, p + m + 1 < ds.length → ltD (gD ds p) (gD ds (p + m + 1)) = true := by
    intro m
    induction m with
    | zero => intro p hp; have := (h (p + 1) hp).1.2 (by omega); simpa using this
    | succ m ih =>
     intro p hp
     have := (h (p + m + 1 + 1) (by omega)).1.2 (by omega)
     rw [show p + m + 1 + 1 - 1 = p + m + 1 by omega] at this
     have e2 := ltT (ih p (by omega)) this
     rwa [show p + (m + 1) + 1 = p + m + 1 + 1 by omega]
   rw [List.pairwise_iff_getElem]
   intro p q hp hq hpq
   have h2' := up (q - p - 1) p (by omega)
   rw [show p + (q - p - 1) + 1 = q by omega, gD_eq hp, gD_eq hq] at h2'
   refine ⟨h2', ?_⟩
   have := (h q hq).2
   rw [List.any_eq_false] at this
   have := this ds[p] (List.mem_take_iff_getElem.2 ⟨p, by omega, rfl⟩)
   rw [gD_eq hq] at this
   simpa using this
 ·rintro ⟨g1, g2⟩ k hk
  rw [List.pairwise_iff_getElem] at g2
  refine ⟨⟨by rw [gD_eq hk]; exact g1 _ (List.getElem_mem hk), fun hk0 => ?_⟩, ?_⟩
  ·rw [gD_eq hk, gD_eq (show k - 1 < ds.length by omega)]
   exact (g2 (k - 1) k (by omega) hk (by omega)).1
  ·rw [List.any_eq_false]
   intro e he
   obtain ⟨p, hp, e'⟩ := List.mem_take_iff_getElem.1 he
   have := (g2 p k (by omega) hk (by omega)).2
   rw [e', ← gD_eq hk] at this
   simpa using this
theorem crossD_comm (d e : Dg) : crossD d e = crossD e d := by
 unfold crossD
 exact Bool.or_comm _ _
def bumpD (out : List Int) (d : Dg) : List Int := ((out.set d.1.toNat (out.getD d.1.toNat 0 + 1))).set d.2.toNat (out.getD d.2.toNat 0 + 1)
theorem bumpD_get {out : List Int} {d : Dg} {p : Nat} (h1 : 0 ≤ d.1) (h2 : d.1 < d.2) (h3 : d.2 < out.length) (hp : p < out.length) : (bumpD out d).getD p 0 = out.getD p 0 + cntD d p := by
 unfold bumpD cntD
 simp only [List.getD_eq_getElem?_getD]
 by_cases e2 : d.2.toNat = p
 ·subst e2
  rw [List.getElem?_set_self (by simp; omega), if_neg (by omega), if_pos (by omega)]
  simp
 ·rw [List.getElem?_set_ne e2]
  by_cases e1 : d.1.toNat = p
  ·subst e1
   rw [List.getElem?_set_self (by omega), if_pos (by omega), if_neg (by omega)]
   simp
  ·rw [List.getElem?_set_ne e1, if_neg (by omega), if_neg (by omega)]
   simp
theorem bumpD_length (out : List Int) (d : Dg) : (bumpD out d).length = out.length := by simp [bumpD]
def quid (n : Nat) (ds : List Dg) : List Int := (List.range n).map fun (p : Nat) => 1 + cnt ds (p : Int)
theorem cnt_cons (d : Dg) (t : List Dg) (m : Int) : cnt (d :: t) m = cntD d m + cnt t m := rfl
theorem bump_fold (n : Nat) : ∀ (ds : List Dg) (out : List Int), out.length = n → (∀ d ∈ ds, 0 ≤ d.1 ∧ d.1 < d.2 ∧ d.2 < (n : Int)) → (ds.foldl bumpD out).length = n ∧ ∀ p, p < n → (ds.foldl bumpD out).getD p 0 = out.getD p 0 + cnt ds p
 | [], out, hl, h => ⟨hl, fun p hp => by simp [cnt]⟩
 | d :: t, out, hl, h => by
  have hd := h d (by simp)
  obtain ⟨h1, h2⟩ := bump_fold n t (bumpD out d) (by rw [bumpD_length, hl]) (fun e he => h e (by simp [he]))
  refine ⟨h1, fun p hp => ?_⟩
  rw [List.foldl_cons, h2 p hp, bumpD_get hd.1 hd.2.1 (by omega) (by omega), cnt_cons]
  omega
def nameL (n : Nat) : List Int := (List.range n).map fun (k : Nat) => (k : Int)
theorem nameL_length (n : Nat) : (nameL n).length = n := by simp [nameL]
theorem nameL_succ (n : Nat) : nameL (n + 1) = nameL n ++ [(n : Int)] := by simp [nameL, List.range_succ]
theorem nameL_get {n p : Nat} (h : p < n) : (nameL n)[p]? = some (p : Int) := by simp [nameL, h]
theorem nameL_sorted (n : Nat) : (nameL n).Pairwise (· < ·) := by
 rw [List.pairwise_iff_getElem]
 intro i j hi hj hij
 simp [nameL]
 omega
theorem nameL_mem {n : Nat} {m : Int} (h : m ∈ nameL n) : 0 ≤ m ∧ m < n := by
 obtain ⟨p, hp, e⟩ := List.mem_map.1 h
 have := List.mem_range.1 hp
 subst e
 omega
theorem cnts_quid {l : List Int} {ds : List Dg} : Cnts l (nameL l.length) ds ↔ quid l.length ds = l := by
 constructor
 ·intro h
  refine List.ext_getElem (by simp [quid]) fun p hp hp' => ?_
  have := h p l[p] (p : Int) (List.getElem?_eq_getElem hp') (nameL_get hp')
  rw [this]
  simp [quid]
 ·intro h p v m hv hm
  have hp := getElem?_lt hv
  rw [nameL_get hp] at hm
  cases hm
  rw [← h] at hv
  simp only [quid, List.getElem?_map, List.getElem?_range hp, Option.map_some, Option.some.injEq] at hv
  exact hv.symm
def trOf (l : List Int) : Option (List Dg) :=
 if inB 3 12 l.length then
  match tri (l.length - 3) l (nameL l.length) with
  | some ds => if quid l.length ds = l then some (sortD ds) else none
  | none => none
 else none
theorem trOf_spec (l : List Int) (h : l.all (inB 1 12) = true) (hn : inB 3 12 l.length = true) : (triS (l.length - 3) l (nameL l.length)).map sortD = trOf l := by
 rw [inB_iff] at hn
 have hb : ∀ v ∈ l, 1 ≤ v ∧ v ≤ 4611686018427387904 := fun v hv => by
  have := inB_iff.1 (List.all_eq_true.1 h v hv)
  omega
 unfold trOf
 rw [if_pos (inB_iff.2 hn)]
 have hl : l.length = l.length - 3 + 3 := by omega
 cases hS : triS (l.length - 3) l (nameL l.length) with
 | some ds =>
  obtain ⟨g1, g2⟩ := triS_tri _ _ _ _ (nameL_sorted _) hl (by rw [nameL_length]; omega) hb hS
  rw [g1]
  simp only []
  rw [if_pos (cnts_quid.1 g2)]
  rfl
 | none =>
  cases hT : tri (l.length - 3) l (nameL l.length) with
  | none => rfl
  | some ds =>
   simp only []
   split
   ·rename_i hq
    have := tri_triS _ _ _ _ (nameL_sorted _) hl (by rw [nameL_length]; omega) (by omega) hT (cnts_quid.2 hq)
    rw [this] at hS
    cases hS
   ·rfl
theorem cnt_le : ∀ {ds : List Dg} {m : Int}, (∀ d ∈ ds, d.1 < d.2) → cnt ds m ≤ ds.length
 | [], m, h => by simp [cnt]
 | d :: t, m, h => by
  have := cnt_le (ds := t) (m := m) fun d hd => h d (by simp [hd])
  rw [cnt_cons, List.length_cons]
  have q := h d (by simp)
  have : cntD d m ≤ 1 := by unfold cntD; split <;> split <;> omega
  omega
theorem trOf_bad (l : List Int) (h : l.all (inB 1 12) = false) : trOf l = none := by
 unfold trOf
 split
 ·rename_i hn
  rw [inB_iff] at hn
  split
  ·rename_i ds hT
   rw [if_neg]
   intro hq
   have hds := (tri_good _ _ _ _ (nameL_sorted _) (by omega) (by rw [nameL_length]; omega) hT)
   rw [List.all_eq_false] at h
   obtain ⟨v, hv, hb⟩ := h
   rw [← hq] at hv
   obtain ⟨p, hp, e⟩ := List.mem_map.1 hv
   have c1 := cnt_nn ds p
   have c2 : cnt ds p ≤ ds.length := cnt_le fun d hd => (hds.2.1 d hd).2.2.1
   apply hb
   rw [inB_iff, ← e]
   omega
  ·rfl
 ·rfl
def triSW : Nat → List Int → List Int → Option (List Int × List Dg)
 | 0, l, _ => some (l, [])
 | k + 1, l, names => match ear l with
  | none => none
  | some i => if okC l i then (triSW k (cutL l i) (names.eraseIdx i)).map fun r => (r.1, cutD names i :: r.2) else none
theorem triS_W : ∀ (k : Nat) (l names : List Int), triS k l names = (triSW k l names).bind fun r => if r.1 = [1, 1, 1] then some r.2 else none
 | 0, l, names => by simp [triS, triSW]
 | k + 1, l, names => by
  unfold triS triSW
  cases ear l with
  | none => rfl
  | some i =>
   simp only []
   split
   ·rw [triS_W k]
    cases triSW k (cutL l i) (names.eraseIdx i) with
    | none => rfl
    | some r => by_cases h : r.1 = [1, 1, 1] <;> simp [h]
   ·rfl
theorem triSW_len : ∀ (k : Nat) (l names : List Int) (r : List Int × List Dg), l.length = k + 3 → triSW k l names = some r → r.1.length = 3 ∧ r.2.length = k
 | 0, l, names, r, hl, h => by
  unfold triSW at h
  cases h
  exact ⟨hl, rfl⟩
 | k + 1, l, names, r, hl, h => by
  unfold triSW at h
  cases he : ear l with
  | none => rw [he] at h; cases h
  | some i =>
   rw [he] at h
   simp only [] at h
   split at h
   ·obtain ⟨r', h1, h2⟩ := Option.map_eq_some_iff.1 h
    subst h2
    obtain ⟨g1, g2⟩ := triSW_len k _ _ r' (by rw [cutL_length (ear_lt he).1]; omega) h1
    exact ⟨g1, by simp [g2]⟩
   ·cases h
theorem nb_tmod {n i : Nat} (hn : 3 ≤ n) (hn2 : n < 1000000) (hi : i < n) :
  Int.tmod (w64 ((w64 ((i : Int) + (n : Int))) - 1)) (n : Int) = (nbB n i : Int) ∧ Int.tmod (w64 ((i : Int) + 1)) (n : Int) = (nbC n i : Int) := by
 rw [w64_id (z := (i : Int) + n) (by omega) (by omega), w64_id (by omega) (by omega), w64_id (by omega) (by omega)]
 rw [Int.tmod_eq_emod_of_nonneg (by omega), Int.tmod_eq_emod_of_nonneg (by omega)]
 unfold nbB nbC
 rw [show (i : Int) + n - 1 = ((i + n - 1 : Nat) : Int) by omega, show (i : Int) + 1 = ((i + 1 : Nat) : Int) by omega]
 exact ⟨(Int.natCast_emod _ _).symm, (Int.natCast_emod _ _).symm⟩
theorem set_getD {l : List Int} {p : Nat} (h : p < l.length) : l[p]? = some (l.getD p 0) := by rw [List.getD_eq_getElem?_getD, List.getElem?_eq_getElem h]; rfl
theorem take_drop_erase {X : Type} (l : List X) (i : Nat) : l.take i ++ l.drop (i + 1) = l.eraseIdx i := (List.eraseIdx_eq_take_drop_succ l i).symm
def F86_sh : FSh := ⟨[(.ag [(.si .i64), (.si .i64)]), (.ag [(.si .i64), (.si .i64)])], []⟩
def F86_fo : List FO := [⟨[(.one .sb)], []⟩]
noncomputable def F86_t : ((Int × Int) × (Int × Int)) → T Bool := fun ((d_0, d_1), (e_0, e_1)) =>
 (.test (decide (d_0 < e_0))
 (.ret true)
 (.test (d_0 == e_0)
 (.ret (decide (d_1 < e_1)))
 (.ret false)))
noncomputable def F86 (v) := (F86_t v).run
noncomputable def F86_E : TEnv := E0
theorem F86_Eok : (F86_E).OK := E0ok
noncomputable def F86_told : Nat → Option SealT := fun id => none
theorem F86_ok : FOK Tryz.prog n_F86 F86_sh F86_fo F86 :=
 fn_ok (E := F86_E) (F86_Eok) (told := F86_told) (fl := []) (c := bodyOf fn_F86) (s := F86_sh) (l := F86_fo) (tree := F86_t) fnat_F86 (by kernel_rfl) (by kernel_rfl) (by kernel_rfl) (loopsOK_of (ls := []) (by kernel_rfl) trivial) (fun v => by kernel_rfl)
theorem F86_eq (d e : Dg) : F86 (d, e) = some (ltD d e) := by
 obtain ⟨a, b⟩ := d
 obtain ⟨c, f⟩ := e
 simp only [F86, F86_t, T.run, ltD]
 by_cases h1 : a < c
 ·simp [h1]
 ·by_cases h2 : a = c
  ·subst h2; simp [h1]
  ·simp [h1, h2]
def F71_sh : FSh := ⟨[(.one (.sl (.pair (.int .i64) (.int .i64)) false false))], []⟩
def F71_L6_sh : LSh := ⟨(fun ex => match ex with | .norm => [(3, none), (5, none), (6, none), (8, none), (9, none), (10, none)] | .exit i => if i = 2 then [(3, none), (5, none), (6, none), (8, none), (9, none), (10, none)] else if i = 1 then [(3, none), (8, none), (9, none), (10, none)] else if i = 0 then [(3, none)] else [] | .ret => [(2, none)]), [(3, (.one (.rw 0 0))), (5, (.one (.pf 1 0 0))), (6, (.one (.si .i64))), (8, (.one (.sl (.pair (.int .i64) (.int .i64)) false false))), (9, (.one (.si .i64))), (10, (.one (.si .i64)))], [(.row 0 (.pair (.int .i64) (.int .i64))), (.rcd 0 [(.si .i64), (.si .i64)])], [⟨(.exit 2), [(3, (.one (.rw 0 0))), (5, (.one (.pf 1 0 0))), (6, (.one (.si .i64))), (8, (.one (.sl (.pair (.int .i64) (.int .i64)) false false))), (9, (.one (.si .i64))), (10, (.one (.si .i64)))], [(.row 0 (.pair (.int .i64) (.int .i64))), (.rcd 0 [(.si .i64), (.si .i64)])]⟩], [], []⟩
noncomputable def F71_L6_step : ((Unit × Unit × Int × List ((Int × Int)) × Int × Int) × (List ((Int × Int)) × (Int × Int))) → T (((Unit × Unit × Int × List ((Int × Int)) × Int × Int) × (List ((Int × Int)) × (Int × Int))) ⊕ ((Unit × Unit × Int × List ((Int × Int)) × Int × Int) × (List ((Int × Int)) × (Int × Int)))) := fun (((), (), k, t8, t9, t10), (out, (d_0, d_1))) =>
 (.test (decide (k < (out.length : Int)))
 (.test (decide ((0 ≤ k) ∧ (k < (out.length : Int))))
 (.sub (out[(0 + (Int.toNat k))]?) fun z0 =>
 (.sub (F86 ((z0.1, z0.2), (d_0, d_1))) fun z1 =>
 (.test z1
 (.test (decide ((0 = 0) ∧ (out.length = out.length)))
 (.ret (Sum.inl (((), ((), ((w64 (k + 1)), (t8, (t9, t10))))), (out, (d_0, d_1)))))
 .fail)
 (.test (decide ((0 = 0) ∧ (out.length = out.length)))
 (.ret (Sum.inr (((), ((), (k, (t8, (t9, t10))))), (out, (d_0, d_1)))))
 .fail))))
 .fail)
 (.test (decide ((0 = 0) ∧ (out.length = out.length)))
 (.ret (Sum.inr (((), ((), (k, (t8, (t9, t10))))), (out, (d_0, d_1)))))
 .fail))
noncomputable def F71_L6 (v) := loopO (fun v => (F71_L6_step v).run) v
def F71_L3_sh : LSh := ⟨(fun ex => match ex with | .norm => [(3, none), (8, none), (9, none), (10, none)] | .exit i => if i = 0 then [(3, none)] else [] | .ret => [(2, none)]), [(3, (.one (.rw 0 0))), (8, (.one (.sl (.pair (.int .i64) (.int .i64)) false false))), (9, (.one (.si .i64))), (10, (.one (.si .i64)))], [(.row 0 (.pair (.int .i64) (.int .i64)))], [⟨(.exit 0), [(3, (.one (.rw 0 0)))], [(.row 0 (.pair (.int .i64) (.int .i64)))]⟩], [], []⟩
noncomputable def F71_L3_step : ((Unit × List ((Int × Int)) × Int × Int) × List ((Int × Int))) → T (((Unit × List ((Int × Int)) × Int × Int) × List ((Int × Int))) ⊕ (Unit × List ((Int × Int)))) := fun (((), t8, t9, t10), out) =>
 (.test (decide (t10 < t9))
 (.test (decide ((0 ≤ t10) ∧ (t10 < (t8.length : Int))))
 (.sub (t8[(Int.toNat t10)]?) fun z0 =>
 (.test (decide ((0 = 0) ∧ (out.length = out.length)))
 (.sub (F71_L6 (((), ((), ((0 : Int), (t8, (t9, t10))))), (out, (z0.1, z0.2)))) fun z1 =>
 (.test (decide (0 ≤ z1.1.2.2.1))
 (.test (decide ((0 ≤ (Int.toNat z1.1.2.2.1)) ∧ ((Int.toNat z1.1.2.2.1) ≤ z1.2.1.length)))
 (.test (decide ((0 + ((Int.toNat z1.1.2.2.1) - 0)) ≤ z1.2.1.length))
 (.test true
 (.test (decide ((2 * ((0 + (List.length (win z1.2.1 0 ((Int.toNat z1.1.2.2.1) - 0)))) * 17)) ≤ 140737488355328))
 (.test (decide (1 ≤ (List.length (List.set (List.replicate 1 ((0 : Int), (0 : Int))) 0 (z1.2.2.1, z1.2.2.2)))))
 (.test (decide ((0 + (0 + (List.length (win z1.2.1 0 ((Int.toNat z1.1.2.2.1) - 0))))) ≤ (List.length ((win (List.replicate 0 ((0 : Int), (0 : Int))) 0 0) ++ (win z1.2.1 0 ((Int.toNat z1.1.2.2.1) - 0))))))
 (.test (decide ((2 * (((0 + (List.length (win z1.2.1 0 ((Int.toNat z1.1.2.2.1) - 0)))) + (List.length (win (List.set (List.replicate 1 ((0 : Int), (0 : Int))) 0 (z1.2.2.1, z1.2.2.2)) 0 1))) * 17)) ≤ 140737488355328))
 (.test (decide (0 ≤ z1.1.2.2.1))
 (.test (decide (((Int.toNat z1.1.2.2.1) ≤ z1.2.1.length) ∧ (z1.2.1.length ≤ z1.2.1.length)))
 (.test (decide (((0 + (Int.toNat z1.1.2.2.1)) + (z1.2.1.length - (Int.toNat z1.1.2.2.1))) ≤ z1.2.1.length))
 (.test (decide ((0 + ((0 + (List.length (win z1.2.1 0 ((Int.toNat z1.1.2.2.1) - 0)))) + (List.length (win (List.set (List.replicate 1 ((0 : Int), (0 : Int))) 0 (z1.2.2.1, z1.2.2.2)) 0 1)))) ≤ (List.length ((win ((win (List.replicate 0 ((0 : Int), (0 : Int))) 0 0) ++ (win z1.2.1 0 ((Int.toNat z1.1.2.2.1) - 0))) 0 (0 + (List.length (win z1.2.1 0 ((Int.toNat z1.1.2.2.1) - 0))))) ++ (win (List.set (List.replicate 1 ((0 : Int), (0 : Int))) 0 (z1.2.2.1, z1.2.2.2)) 0 1)))))
 (.test (decide ((2 * ((((0 + (List.length (win z1.2.1 0 ((Int.toNat z1.1.2.2.1) - 0)))) + (List.length (win (List.set (List.replicate 1 ((0 : Int), (0 : Int))) 0 (z1.2.2.1, z1.2.2.2)) 0 1))) + (List.length (win z1.2.1 (0 + (Int.toNat z1.1.2.2.1)) (z1.2.1.length - (Int.toNat z1.1.2.2.1))))) * 17)) ≤ 140737488355328))
 (.test (decide ((0 = 0) ∧ ((((0 + (List.length (win z1.2.1 0 ((Int.toNat z1.1.2.2.1) - 0)))) + (List.length (win (List.set (List.replicate 1 ((0 : Int), (0 : Int))) 0 (z1.2.2.1, z1.2.2.2)) 0 1))) + (List.length (win z1.2.1 (0 + (Int.toNat z1.1.2.2.1)) (z1.2.1.length - (Int.toNat z1.1.2.2.1))))) = (List.length ((win ((win ((win (List.replicate 0 ((0 : Int), (0 : Int))) 0 0) ++ (win z1.2.1 0 ((Int.toNat z1.1.2.2.1) - 0))) 0 (0 + (List.length (win z1.2.1 0 ((Int.toNat z1.1.2.2.1) - 0))))) ++ (win (List.set (List.replicate 1 ((0 : Int), (0 : Int))) 0 (z1.2.2.1, z1.2.2.2)) 0 1)) 0 ((0 + (List.length (win z1.2.1 0 ((Int.toNat z1.1.2.2.1) - 0)))) + (List.length (win (List.set (List.replicate 1 ((0 : Int), (0 : Int))) 0 (z1.2.2.1, z1.2.2.2)) 0 1)))) ++ (win z1.2.1 (0 + (Int.toNat z1.1.2.2.1)) (z1.2.1.length - (Int.toNat z1.1.2.2.1))))))))
 (.ret (Sum.inl (((), (z1.1.2.2.2.1, (z1.1.2.2.2.2.1, (w64 (z1.1.2.2.2.2.2 + 1))))), ((win ((win ((win (List.replicate 0 ((0 : Int), (0 : Int))) 0 0) ++ (win z1.2.1 0 ((Int.toNat z1.1.2.2.1) - 0))) 0 (0 + (List.length (win z1.2.1 0 ((Int.toNat z1.1.2.2.1) - 0))))) ++ (win (List.set (List.replicate 1 ((0 : Int), (0 : Int))) 0 (z1.2.2.1, z1.2.2.2)) 0 1)) 0 ((0 + (List.length (win z1.2.1 0 ((Int.toNat z1.1.2.2.1) - 0)))) + (List.length (win (List.set (List.replicate 1 ((0 : Int), (0 : Int))) 0 (z1.2.2.1, z1.2.2.2)) 0 1)))) ++ (win z1.2.1 (0 + (Int.toNat z1.1.2.2.1)) (z1.2.1.length - (Int.toNat z1.1.2.2.1)))))))
 .fail)
 .fail)
 .fail)
 .fail)
 .fail)
 .fail)
 .fail)
 .fail)
 .fail)
 .fail)
 .fail)
 .fail)
 .fail)
 .fail))
 .fail))
 .fail)
 (.test (decide ((0 = 0) ∧ (out.length = out.length)))
 (.ret (Sum.inr ((), out)))
 .fail))
noncomputable def F71_L3 (v) := loopO (fun v => (F71_L3_step v).run) v
def F71_fo : List FO := [⟨[(.one (.rw 0 0))], [(.row 0 (.pair (.int .i64) (.int .i64)))]⟩]
noncomputable def F71_t : List ((Int × Int)) → T (Unit × List ((Int × Int))) := fun ds =>
 (.test true
 (.sub (F71_L3 (((), (ds, ((ds.length : Int), (0 : Int)))), ([] : List (Int × Int)))) fun z0 =>
 (.test (decide ((0 = 0) ∧ (z0.2.length = z0.2.length)))
 (.ret ((), z0.2))
 .fail))
 .fail)
noncomputable def F71 (v) := (F71_t v).run
noncomputable def F71_E : TEnv := (E0.add1 n_F86 F86_sh F86_fo F86)
theorem F71_Eok : (F71_E).OK := (E0ok.add1 F86_ok)
noncomputable def F71_told : Nat → Option SealT := fun id => if id = 6 then some (LSh.told F71_L6_sh 0 (F71_L6_step)) else if id = 3 then some (LSh.told F71_L3_sh 0 (F71_L3_step)) else none
theorem F71_L6_ok : ToldOK Tryz.prog 0 (loopAt (bodyOf fn_F71) [0, 0]) (LSh.told F71_L6_sh 0 (F71_L6_step)) :=
 loop_ok (E := F71_E) (F71_Eok) (told := F71_told) (l := F71_L6_sh) (step := F71_L6_step) (loopsOK_of (ls := []) (by kernel_rfl) trivial) (by kernel_rfl) (fun v => by kernel_rfl)
theorem F71_L3_ok : ToldOK Tryz.prog 0 (loopAt (bodyOf fn_F71) [0]) (LSh.told F71_L3_sh 0 (F71_L3_step)) :=
 loop_ok (E := F71_E) (F71_Eok) (told := F71_told) (l := F71_L3_sh) (step := F71_L3_step) (loopsOK_of (ls := [loopAt (bodyOf fn_F71) [0, 0]]) (by kernel_rfl) ⟨.inr ⟨_, by kernel_rfl, F71_L6_ok⟩, trivial⟩) (by kernel_rfl) (fun v => by kernel_rfl)
theorem F71_ok : FOK Tryz.prog n_F71 F71_sh F71_fo F71 :=
 fn_ok (E := F71_E) (F71_Eok) (told := F71_told) (fl := []) (c := bodyOf fn_F71) (s := F71_sh) (l := F71_fo) (tree := F71_t) fnat_F71 (by kernel_rfl) (by kernel_rfl) (by kernel_rfl) (loopsOK_of (ls := [loopAt (bodyOf fn_F71) [0]]) (by kernel_rfl) ⟨.inr ⟨_, by kernel_rfl, F71_L3_ok⟩, trivial⟩) (fun v => by kernel_rfl)
theorem F71_place (d : Dg) (out : List Dg) (t8 : List Dg) (a b : Int) (hl : out.length < 1000000) :
  ∃ k : Nat, k ≤ out.length ∧ out.take k ++ d :: out.drop k = insD d out ∧ F71_L6 (((), ((), ((0 : Int), (t8, (a, b))))), (out, d)) = some (((), ((), ((k : Int), (t8, (a, b))))), (out, d)) := by
 obtain ⟨k, h1, h2, h3, h4, h5⟩ := take_while_idx d out
 refine ⟨k, h1, by unfold insD; rw [h2, h3], ?_⟩
 obtain ⟨d0, d1⟩ := d
 have key : ∀ n j, j + n = k → F71_L6 (((), ((), ((j : Int), (t8, (a, b))))), (out, (d0, d1))) = some (((), ((), ((k : Int), (t8, (a, b))))), (out, (d0, d1))) := by
  intro n
  induction n with
  | zero =>
   intro j hj
   have : j = k := by omega
   subst this
   simp only [F71_L6]
   refine loopO_done ?_
   by_cases hk : j < out.length
   ·have c0 : (j : Int) < (out.length : Int) := by omega
    have c1 : (0 : Int) ≤ (j : Int) ∧ (j : Int) < (out.length : Int) := by omega
    simp only [F71_L6_step, T.run, c0, c1, decide_true, if_true, Int.toNat_natCast, Nat.zero_add, gD_some hk, Option.bind_some, F86_eq, h5 hk, and_self]
    simp
   ·have c0 : ¬ ((j : Int) < (out.length : Int)) := by omega
    simp only [F71_L6_step, T.run, c0, decide_false]
    simp
  | succ n ih =>
   intro j hj
   have hk : j < out.length := by omega
   have ih := ih (j + 1) (by omega)
   simp only [F71_L6] at ih ⊢
   rw [← ih]
   refine loopO_next ?_
   have c0 : (j : Int) < (out.length : Int) := by omega
   have c1 : (0 : Int) ≤ (j : Int) ∧ (j : Int) < (out.length : Int) := by omega
   have w1 : w64 ((j : Int) + 1) = ((j + 1 : Nat) : Int) := by rw [w64_id (by omega) (by omega)]; omega
   simp only [F71_L6_step, T.run, c0, c1, decide_true, if_true, Int.toNat_natCast, Nat.zero_add, gD_some hk, Option.bind_some, F86_eq, h4 j (by omega), and_self, w1]
 simpa using key k 0 (by omega)
theorem insD_length (d : Dg) (l : List Dg) : (insD d l).length = l.length + 1 := by simpa using (insD_perm d l).length_eq
theorem F71_eq (l : List Dg) (hl : l.length < 100000) : F71 l = some ((), sortD l) := by
 have h := loop_fold (step := fun v => (F71_L3_step v).run) (xs := l) (fun k (s : List Dg) => s.length = k) (fun k s => (((), (l, ((l.length : Int), (k : Int)))), s)) (fun out d => insD d out) (fun s => ((), s))
  (fun k s d hk hd => by
   have hlt := getElem?_lt hd
   have c0 : (k : Int) < (l.length : Int) := by omega
   have c1 : (0 : Int) ≤ (k : Int) ∧ (k : Int) < (l.length : Int) := by omega
   have w1 : w64 ((k : Int) + 1) = ((k + 1 : Nat) : Int) := by rw [w64_id (by omega) (by omega)]; omega
   obtain ⟨m, m1, m2, m3⟩ := F71_place d s l (l.length : Int) (k : Int) (by omega)
   refine ⟨?_, by rw [insD_length, hk]⟩
   have t1 : win s 0 (m - 0) = s.take m := win_take _ _
   have t2 : win (s.take m) 0 m = s.take m := by rw [win_take, List.take_take, Nat.min_self]
   have t3 : win s m (s.length - m) = s.drop m := by unfold win; rw [List.take_of_length_le (by simp)]
   have l1 : (s.take m).length = m := by simp; omega
   have l2 : (s.drop m).length = s.length - m := by simp
   have t4 : win ([] : List Dg) 0 0 = [] := rfl
   have l3 : (s.take m ++ [d]).length = m + 1 := by simp; omega
   have t5 : win (s.take m ++ [d]) 0 (m + 1) = s.take m ++ [d] := by rw [← l3]; exact win_all _
   have e : s.take m ++ [d] ++ s.drop m = insD d s := by rw [← m2]; simp
   simp only [F71_L3_step, T.run, c0, c1, decide_true, if_true, Int.toNat_natCast, Option.bind_some, and_self, hd, m3, win_one, List.replicate_zero, t1, t4, List.nil_append, l1, Nat.zero_add, t2, t3, l2, List.length_cons, List.length_nil, t5, e]
   have n1 : (0 : Int) ≤ (m : Int) := by omega
   have n2 : m - 0 ≤ s.length := by omega
   have n3 : m ≤ s.length := m1
   have n4 : 2 * ((m + 1 + (s.length - m)) * 17) ≤ 140737488355328 := by omega
   have n5 : 2 * (m * 17) ≤ 140737488355328 := by omega
   have n6 : 2 * ((m + 1) * 17) ≤ 140737488355328 := by omega
   have n7 : m + (s.length - m) ≤ s.length := by omega
   have n8 : m + 1 + (s.length - m) = s.length + 1 := by omega
   simp [n1, n2, n3, n4, n5, n6, n7, n8, w1, insD_length, l1]
   omega)
  (fun s hs => by simp [F71_L3_step, T.run])
  [] rfl
 simp only [Int.natCast_zero] at h
 simp only [F71, F71_t, T.run, F71_L3, h.1, Option.bind_some]
 simp [sortD]
end Go.Proofs.W
