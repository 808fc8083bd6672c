/- Functions of the program, walked, and what they compute. -/
import Derived.Test.YtaoeghfoifhhcaaGreatDoorFdIds
set_option linter.unusedVariables false
set_option linter.unusedSimpArgs false
set_option maxRecDepth 100000
set_option maxHeartbeats 4000000
namespace Go.Proofs.W
open Go Go.Gm Go.Proofs
open Go.RowKit Go.Shelf
theorem gcd_toNat_step {a b : Int} (ha : 0 ≤ a) (hb : 0 < b) : Nat.gcd b.toNat (Int.tmod a b).toNat = Nat.gcd a.toNat b.toNat ∧ 0 ≤ Int.tmod a b ∧ Int.tmod a b < b := by
  obtain ⟨m, rfl⟩ := Int.eq_ofNat_of_zero_le ha
  obtain ⟨n, rfl⟩ := Int.eq_ofNat_of_zero_le (Int.le_of_lt hb)
  have e : Int.tmod (m : Int) (n : Int) = ((m % n : Nat) : Int) := rfl
  rw [e]
  simp only [Int.toNat_natCast]
  refine ⟨?_, Int.natCast_nonneg _, ?_⟩
  · rw [Nat.gcd_comm m n, Nat.gcd_rec n m, Nat.gcd_comm]
  · have : n ≠ 0 := by omega
    exact Int.ofNat_lt.2 (Nat.mod_lt m (by omega))
def upQ (num den : Int) : Int := (num + den - 1) / den
def F110_sh : FSh := ⟨[(.one (.sl (.int .u8) false false)), (.one (.sl (.int .u8) false false))], []⟩

def F110_fo : List FO := [⟨[(.one .sb)], []⟩]
noncomputable def F110_t : (List (Int) × List (Int)) → T Bool := fun (code, more) =>
 (.test (decide (((List.length code) : Int) > 1048576))
 (.ret true)
 (.ret (decide (((List.length more) : Int) > (w64 (1048576 - ((List.length code) : Int)))))))
noncomputable def F110 (v : (List (Int) × List (Int))) : Option Bool := (F110_t v).run
noncomputable def F110_E : TEnv := E0
theorem F110_Eok : (F110_E).OK := E0ok
noncomputable def F110_told : Nat → Option SealT := fun id => none
theorem F110_ok : FOK Tryz.prog n_F110 F110_sh F110_fo F110 :=
  fn_ok (E := F110_E) (F110_Eok) (told := F110_told) (fl := []) (c := bodyOf fn_F110) (s := F110_sh) (l := F110_fo) (tree := F110_t) fnat_F110 (by kernel_rfl) (by kernel_rfl) (by kernel_rfl) (loopsOK_of (ls := []) (by kernel_rfl) trivial) (fun v => by kernel_rfl)

def F49_sh : FSh := ⟨[(.one (.pf 0 0 0))], [(.rcd 0 [(.sl (.int .u8) false true), (.si .i64), (.si .u64)])]⟩

def F49_fo : List FO := [⟨[(.one (.si .i64))], [(.rcd 0 [(.sl (.int .u8) false true), (.si .i64), (.si .u64)])]⟩]
noncomputable def F49_t : (Unit × (List (Int) × Int × Int)) → T (Int × (List (Int) × Int × Int)) := fun ((), (c_0, c_1, c_2)) =>
 (.test (decide (c_1 < ((List.length c_0) : Int)))
 (.test (decide ((0 ≤ c_1) ∧ (c_1 < ((List.length c_0) : Int))))
 (.sub (c_0[(Int.toNat c_1)]?) fun z0 =>
 (.test (decide ((w64 (c_1 + 1)) ≤ ((List.length c_0) : Int)))
 (.ret ((w64 z0), (c_0, ((w64 (c_1 + 1)), (wu64 ((wu64 ((wu64 (c_2 * 6364136223846793005)) + (wu64 (w64 z0)))) + 1442695040888963407))))))
 (.ret ((w64 (wu64 (((Int.toNat ((Int.rec
 (fun a =>
 (fun a =>
 Nat.casesOn a ((fun x => 0) (2 ^ min (Int.toNat 40) IntKind.u64.bits)) fun n =>
 Int.casesOn (2 ^ min (Int.toNat 40) IntKind.u64.bits) (fun a => (fun m n => Int.ofNat (m / n)) n.succ a)
 fun a => (fun m n => Int.negSucc (m / n.succ)) n a)
 a)
 (fun a =>
 (fun a =>
 Int.casesOn (2 ^ min (Int.toNat 40) IntKind.u64.bits)
 (fun a_1 => Nat.casesOn a_1 ((fun a => 0) a) fun n => (fun m n => Int.negSucc (m / n.succ)) a n) fun a_1 =>
 (fun m n => Int.ofNat (m.succ / n.succ)) a a_1)
 a)
 (IntKind.u64.wrap
 (IntKind.u64.wrap
 (IntKind.u64.wrap (c_2 * Int.ofNat 6364136223846793005) + IntKind.u64.wrap (IntKind.i64.wrap z0)) +
 Int.ofNat 1442695040888963407))) % 18446744073709551616)) &&& 255 : Nat) : Int))), (c_0, ((w64 (c_1 + 1)), (wu64 ((wu64 ((wu64 (c_2 * 6364136223846793005)) + (wu64 (w64 z0)))) + 1442695040888963407))))))))
 .fail)
 (.test (decide ((w64 (c_1 + 1)) ≤ ((List.length c_0) : Int)))
 (.ret ((0 : Int), (c_0, ((w64 (c_1 + 1)), (wu64 ((wu64 ((wu64 (c_2 * 6364136223846793005)) + 0)) + 1442695040888963407))))))
 (.ret ((w64 (wu64 (((Int.toNat ((Int.rec
 (fun a =>
 (fun a =>
 Nat.casesOn a ((fun x => 0) (2 ^ min (Int.toNat 40) IntKind.u64.bits)) fun n =>
 Int.casesOn (2 ^ min (Int.toNat 40) IntKind.u64.bits) (fun a => (fun m n => Int.ofNat (m / n)) n.succ a)
 fun a => (fun m n => Int.negSucc (m / n.succ)) n a)
 a)
 (fun a =>
 (fun a =>
 Int.casesOn (2 ^ min (Int.toNat 40) IntKind.u64.bits)
 (fun a_1 => Nat.casesOn a_1 ((fun a => 0) a) fun n => (fun m n => Int.negSucc (m / n.succ)) a n) fun a_1 =>
 (fun m n => Int.ofNat (m.succ / n.succ)) a a_1)
 a)
 (IntKind.u64.wrap
 (IntKind.u64.wrap (IntKind.u64.wrap (c_2 * Int.ofNat 6364136223846793005) + Int.ofNat 0) +
 Int.ofNat 1442695040888963407))) % 18446744073709551616)) &&& 255 : Nat) : Int))), (c_0, ((w64 (c_1 + 1)), (wu64 ((wu64 ((wu64 (c_2 * 6364136223846793005)) + 0)) + 1442695040888963407))))))))
noncomputable def F49 (v : (Unit × (List (Int) × Int × Int))) : Option (Int × (List (Int) × Int × Int)) := (F49_t v).run
noncomputable def F49_E : TEnv := E0
theorem F49_Eok : (F49_E).OK := E0ok
noncomputable def F49_told : Nat → Option SealT := fun id => none
theorem F49_ok : FOK Tryz.prog n_F49 F49_sh F49_fo F49 :=
  fn_ok (E := F49_E) (F49_Eok) (told := F49_told) (fl := []) (c := bodyOf fn_F49) (s := F49_sh) (l := F49_fo) (tree := F49_t) fnat_F49 (by kernel_rfl) (by kernel_rfl) (by kernel_rfl) (loopsOK_of (ls := []) (by kernel_rfl) trivial) (fun v => by kernel_rfl)

def F50_sh : FSh := ⟨[(.one (.pf 0 0 0)), (.one (.si .i64))], [(.rcd 0 [(.sl (.int .u8) false true), (.si .i64), (.si .u64)])]⟩

def F50_fo : List FO := [⟨[(.one (.si .i64))], [(.rcd 0 [(.sl (.int .u8) false true), (.si .i64), (.si .u64)])]⟩]
noncomputable def F50_t : ((Unit × Int) × (List (Int) × Int × Int)) → T (Int × (List (Int) × Int × Int)) := fun (((), n), (c_0, c_1, c_2)) =>
 (.test (decide (n ≤ 1))
 (.ret ((0 : Int), (c_0, (c_1, c_2))))
 (.sub (F49 ((), (c_0, (c_1, c_2)))) fun z0 =>
 (.test (decide (n > 200))
 (.sub (F49 ((), (z0.2.1, (z0.2.2.1, z0.2.2.2)))) fun z1 =>
 (.test (decide (n ≠ 0))
 (.ret ((Int.tmod (w64 ((w64 (z0.1 * 256)) + z1.1)) n), (z1.2.1, (z1.2.2.1, z1.2.2.2))))
 .fail))
 (.test (decide (n ≠ 0))
 (.ret ((Int.tmod z0.1 n), (z0.2.1, (z0.2.2.1, z0.2.2.2))))
 .fail))))
noncomputable def F50 (v : ((Unit × Int) × (List (Int) × Int × Int))) : Option (Int × (List (Int) × Int × Int)) := (F50_t v).run
noncomputable def F50_E : TEnv := (E0.add1 n_F49 F49_sh F49_fo F49)
theorem F50_Eok : (F50_E).OK := (E0ok.add1 F49_ok)
noncomputable def F50_told : Nat → Option SealT := fun id => none
theorem F50_ok : FOK Tryz.prog n_F50 F50_sh F50_fo F50 :=
  fn_ok (E := F50_E) (F50_Eok) (told := F50_told) (fl := []) (c := bodyOf fn_F50) (s := F50_sh) (l := F50_fo) (tree := F50_t) fnat_F50 (by kernel_rfl) (by kernel_rfl) (by kernel_rfl) (loopsOK_of (ls := []) (by kernel_rfl) trivial) (fun v => by kernel_rfl)

def F86_sh : FSh := ⟨[(.one (.sl (.int .i64) false false))], []⟩

def F86_fo : List FO := [⟨[(.one (.rw 0 0))], [(.row 0 (.int .i64))]⟩]
noncomputable def F86_t : List (Int) → T (Unit × List (Int)) := fun l =>
 (.test true
 (.test (decide ((2 * ((0 + (List.length l)) * 9)) ≤ 140737488355328))
 (.test (decide ((0 = 0) ∧ ((0 + (List.length l)) = (List.length ((win (List.replicate 0 (0 : Int)) 0 0) ++ l)))))
 (.ret ((), ((win (List.replicate 0 (0 : Int)) 0 0) ++ l)))
 .fail)
 .fail)
 .fail)
noncomputable def F86 (v : List (Int)) : Option (Unit × List (Int)) := (F86_t v).run
noncomputable def F86_E : TEnv := E0
theorem F86_Eok : (F86_E).OK := E0ok
noncomputable def F86_told : Nat → Option SealT := fun id => none
theorem F86_ok : FOK Tryz.prog n_F86 F86_sh F86_fo F86 :=
  fn_ok (E := F86_E) (F86_Eok) (told := F86_told) (fl := []) (c := bodyOf fn_F86) (s := F86_sh) (l := F86_fo) (tree := F86_t) fnat_F86 (by kernel_rfl) (by kernel_rfl) (by kernel_rfl) (loopsOK_of (ls := []) (by kernel_rfl) trivial) (fun v => by kernel_rfl)

theorem F86_eq (l : List Int) (hl : l.length < 1000000000000) : F86 l = some ((), l) := by
  have h : 2 * (l.length * 9) ≤ 140737488355328 := by omega
  have hw : win ([] : List Int) 0 0 = [] := rfl
  simp [F86, F86_t, T.run, hw, h]


def F18_sh : FSh := ⟨[(.one (.pf 0 0 0)), (.one (.si .i64))], [(.rcd 0 [(.sl (.int .u8) false true), (.si .i64), (.si .u64)])]⟩

def F18_L2_sh : LSh := ⟨(fun ex => match ex with | .norm => [(0, none), (1, none), (5, none)] | .exit i => if i = 0 then [(5, none)] else [] | .ret => [(4, none)]), [(0, (.one (.pf 0 0 0))), (1, (.one (.si .i64))), (5, (.one (.rw 1 0)))], [(.rcd 0 [(.sl (.int .u8) false true), (.si .i64), (.si .u64)]), (.row 0 (.int .i64))], [⟨(.exit 0), [(5, (.one (.rw 1 0)))], [(.rcd 0 [(.sl (.int .u8) false true), (.si .i64), (.si .u64)]), (.row 0 (.int .i64))]⟩], [], []⟩
noncomputable def F18_L2_step : ((Unit × Int × Unit) × ((List (Int) × Int × Int) × List (Int))) → T (((Unit × Int × Unit) × ((List (Int) × Int × Int) × List (Int))) ⊕ (Unit × ((List (Int) × Int × Int) × List (Int)))) := fun (((), n, ()), ((c_0, c_1, c_2), out)) =>
 (.test (decide (((List.length out) : Int) < n))
 (.sub (F50 (((), ((List.length out) : Int)), (c_0, (c_1, c_2)))) fun z0 =>
 (.test (decide (0 ≤ (w64 (1 + z0.1))))
 (.test (decide ((0 ≤ (Int.toNat (w64 (1 + z0.1)))) ∧ ((Int.toNat (w64 (1 + z0.1))) ≤ (List.length out))))
 (.test (decide ((0 + ((Int.toNat (w64 (1 + z0.1))) - 0)) ≤ (List.length out)))
 (.sub (F86 (win out 0 ((Int.toNat (w64 (1 + z0.1))) - 0))) fun z1 =>
 (.test true
 (.test (decide ((0 + (List.length z1.2)) ≤ (List.length z1.2)))
 (.test (decide ((2 * (((List.length z1.2) + 1) * 9)) ≤ 140737488355328))
 (.test (decide (0 ≤ (w64 (1 + z0.1))))
 (.test (decide (((Int.toNat (w64 (1 + z0.1))) ≤ (List.length out)) ∧ ((List.length out) ≤ (List.length out))))
 (.test (decide (((0 + (Int.toNat (w64 (1 + z0.1)))) + ((List.length out) - (Int.toNat (w64 (1 + z0.1))))) ≤ (List.length out)))
 (.test (decide ((0 + ((List.length z1.2) + 1)) ≤ (List.length ((win z1.2 0 (List.length z1.2)) ++ (win (List.set (List.replicate 1 (0 : Int)) 0 (1 : Int)) 0 1)))))
 (.test (decide ((2 * ((((List.length z1.2) + 1) + (List.length (win out (0 + (Int.toNat (w64 (1 + z0.1)))) ((List.length out) - (Int.toNat (w64 (1 + z0.1))))))) * 9)) ≤ 140737488355328))
 (.test (decide ((0 ≤ (w64 ((w64 (1 + z0.1)) - 1))) ∧ ((w64 ((w64 (1 + z0.1)) - 1)) < ((((List.length z1.2) + 1) + (List.length (win out (0 + (Int.toNat (w64 (1 + z0.1)))) ((List.length out) - (Int.toNat (w64 (1 + z0.1))))))) : Int))))
 (.sub (((win ((win z1.2 0 (List.length z1.2)) ++ (win (List.set (List.replicate 1 (0 : Int)) 0 (1 : Int)) 0 1)) 0 ((List.length z1.2) + 1)) ++ (win out (0 + (Int.toNat (w64 (1 + z0.1)))) ((List.length out) - (Int.toNat (w64 (1 + z0.1))))))[(0 + (Int.toNat (w64 ((w64 (1 + z0.1)) - 1))))]?) fun z2 =>
 (.test (decide ((0 ≤ (w64 ((w64 (1 + z0.1)) - 1))) ∧ ((w64 ((w64 (1 + z0.1)) - 1)) < ((((List.length z1.2) + 1) + (List.length (win out (0 + (Int.toNat (w64 (1 + z0.1)))) ((List.length out) - (Int.toNat (w64 (1 + z0.1))))))) : Int))))
 (.sub (((win ((win z1.2 0 (List.length z1.2)) ++ (win (List.set (List.replicate 1 (0 : Int)) 0 (1 : Int)) 0 1)) 0 ((List.length z1.2) + 1)) ++ (win out (0 + (Int.toNat (w64 (1 + z0.1)))) ((List.length out) - (Int.toNat (w64 (1 + z0.1))))))[(0 + (Int.toNat (w64 ((w64 (1 + z0.1)) - 1))))]?) fun z3 =>
 (.test (decide (((((List.length z1.2) + 1) + (List.length (win out (0 + (Int.toNat (w64 (1 + z0.1)))) ((List.length out) - (Int.toNat (w64 (1 + z0.1))))))) : Int) ≠ 0))
 (.test (decide ((0 ≤ (Int.tmod (w64 ((w64 (1 + z0.1)) + 1)) ((((List.length z1.2) + 1) + (List.length (win out (0 + (Int.toNat (w64 (1 + z0.1)))) ((List.length out) - (Int.toNat (w64 (1 + z0.1))))))) : Int))) ∧ ((Int.tmod (w64 ((w64 (1 + z0.1)) + 1)) ((((List.length z1.2) + 1) + (List.length (win out (0 + (Int.toNat (w64 (1 + z0.1)))) ((List.length out) - (Int.toNat (w64 (1 + z0.1))))))) : Int)) < ((((List.length z1.2) + 1) + (List.length (win out (0 + (Int.toNat (w64 (1 + z0.1)))) ((List.length out) - (Int.toNat (w64 (1 + z0.1))))))) : Int))))
 (.sub ((List.set ((win ((win z1.2 0 (List.length z1.2)) ++ (win (List.set (List.replicate 1 (0 : Int)) 0 (1 : Int)) 0 1)) 0 ((List.length z1.2) + 1)) ++ (win out (0 + (Int.toNat (w64 (1 + z0.1)))) ((List.length out) - (Int.toNat (w64 (1 + z0.1)))))) (0 + (Int.toNat (w64 ((w64 (1 + z0.1)) - 1)))) (w64 (z2 + 1)))[(0 + (Int.toNat (Int.tmod (w64 ((w64 (1 + z0.1)) + 1)) ((((List.length z1.2) + 1) + (List.length (win out (0 + (Int.toNat (w64 (1 + z0.1)))) ((List.length out) - (Int.toNat (w64 (1 + z0.1))))))) : Int))))]?) fun z4 =>
 (.test (decide ((0 ≤ (Int.tmod (w64 ((w64 (1 + z0.1)) + 1)) ((((List.length z1.2) + 1) + (List.length (win out (0 + (Int.toNat (w64 (1 + z0.1)))) ((List.length out) - (Int.toNat (w64 (1 + z0.1))))))) : Int))) ∧ ((Int.tmod (w64 ((w64 (1 + z0.1)) + 1)) ((((List.length z1.2) + 1) + (List.length (win out (0 + (Int.toNat (w64 (1 + z0.1)))) ((List.length out) - (Int.toNat (w64 (1 + z0.1))))))) : Int)) < ((((List.length z1.2) + 1) + (List.length (win out (0 + (Int.toNat (w64 (1 + z0.1)))) ((List.length out) - (Int.toNat (w64 (1 + z0.1))))))) : Int))))
 (.sub ((List.set ((win ((win z1.2 0 (List.length z1.2)) ++ (win (List.set (List.replicate 1 (0 : Int)) 0 (1 : Int)) 0 1)) 0 ((List.length z1.2) + 1)) ++ (win out (0 + (Int.toNat (w64 (1 + z0.1)))) ((List.length out) - (Int.toNat (w64 (1 + z0.1)))))) (0 + (Int.toNat (w64 ((w64 (1 + z0.1)) - 1)))) (w64 (z2 + 1)))[(0 + (Int.toNat (Int.tmod (w64 ((w64 (1 + z0.1)) + 1)) ((((List.length z1.2) + 1) + (List.length (win out (0 + (Int.toNat (w64 (1 + z0.1)))) ((List.length out) - (Int.toNat (w64 (1 + z0.1))))))) : Int))))]?) fun z5 =>
 (.test (decide ((0 = 0) ∧ ((((List.length z1.2) + 1) + (List.length (win out (0 + (Int.toNat (w64 (1 + z0.1)))) ((List.length out) - (Int.toNat (w64 (1 + z0.1))))))) = (List.length (List.set (List.set ((win ((win z1.2 0 (List.length z1.2)) ++ (win (List.set (List.replicate 1 (0 : Int)) 0 (1 : Int)) 0 1)) 0 ((List.length z1.2) + 1)) ++ (win out (0 + (Int.toNat (w64 (1 + z0.1)))) ((List.length out) - (Int.toNat (w64 (1 + z0.1)))))) (0 + (Int.toNat (w64 ((w64 (1 + z0.1)) - 1)))) (w64 (z2 + 1))) (0 + (Int.toNat (Int.tmod (w64 ((w64 (1 + z0.1)) + 1)) ((((List.length z1.2) + 1) + (List.length (win out (0 + (Int.toNat (w64 (1 + z0.1)))) ((List.length out) - (Int.toNat (w64 (1 + z0.1))))))) : Int)))) (w64 (z4 + 1)))))))
 (.ret (Sum.inl (((), (n, ())), ((z0.2.1, (z0.2.2.1, z0.2.2.2)), (List.set (List.set ((win ((win z1.2 0 (List.length z1.2)) ++ (win (List.set (List.replicate 1 (0 : Int)) 0 (1 : Int)) 0 1)) 0 ((List.length z1.2) + 1)) ++ (win out (0 + (Int.toNat (w64 (1 + z0.1)))) ((List.length out) - (Int.toNat (w64 (1 + z0.1)))))) (0 + (Int.toNat (w64 ((w64 (1 + z0.1)) - 1)))) (w64 (z2 + 1))) (0 + (Int.toNat (Int.tmod (w64 ((w64 (1 + z0.1)) + 1)) ((((List.length z1.2) + 1) + (List.length (win out (0 + (Int.toNat (w64 (1 + z0.1)))) ((List.length out) - (Int.toNat (w64 (1 + z0.1))))))) : Int)))) (w64 (z4 + 1)))))))
 .fail))
 .fail))
 .fail)
 .fail))
 .fail))
 .fail)
 .fail)
 .fail)
 .fail)
 .fail)
 .fail)
 .fail)
 .fail)
 .fail))
 .fail)
 .fail)
 .fail))
 (.test (decide ((0 = 0) ∧ ((List.length out) = (List.length out))))
 (.ret (Sum.inr ((), ((c_0, (c_1, c_2)), out))))
 .fail))
noncomputable def F18_L2 (v : ((Unit × Int × Unit) × ((List (Int) × Int × Int) × List (Int)))) : Option (Unit × ((List (Int) × Int × Int) × List (Int))) := loopO (fun v => (F18_L2_step v).run) v

def F18_fo : List FO := [⟨[(.one (.rw 1 0))], [(.rcd 0 [(.sl (.int .u8) false true), (.si .i64), (.si .u64)]), (.row 0 (.int .i64))]⟩]
noncomputable def F18_t : ((Unit × Int) × (List (Int) × Int × Int)) → T (Unit × ((List (Int) × Int × Int) × List (Int))) := fun (((), n), (c_0, c_1, c_2)) =>
 (.test (decide ((0 = 0) ∧ (3 = (List.length (List.set (List.set (List.set (List.replicate 3 (0 : Int)) 0 (1 : Int)) 1 (1 : Int)) 2 (1 : Int))))))
 (.sub (F18_L2 (((), (n, ())), ((c_0, (c_1, c_2)), (List.set (List.set (List.set (List.replicate 3 (0 : Int)) 0 (1 : Int)) 1 (1 : Int)) 2 (1 : Int))))) fun z0 =>
 (.test (decide ((0 = 0) ∧ ((List.length z0.2.2) = (List.length z0.2.2))))
 (.ret ((), ((z0.2.1.1, (z0.2.1.2.1, z0.2.1.2.2)), z0.2.2)))
 .fail))
 .fail)
noncomputable def F18 (v : ((Unit × Int) × (List (Int) × Int × Int))) : Option (Unit × ((List (Int) × Int × Int) × List (Int))) := (F18_t v).run
noncomputable def F18_E : TEnv := ((E0.add1 n_F50 F50_sh F50_fo F50).add1 n_F86 F86_sh F86_fo F86)
theorem F18_Eok : (F18_E).OK := ((E0ok.add1 F50_ok).add1 F86_ok)
noncomputable def F18_told : Nat → Option SealT := fun id => if id = 2 then some (LSh.told F18_L2_sh 1 (F18_L2_step)) else none
theorem F18_L2_ok : ToldOK Tryz.prog 1 (loopAt (bodyOf fn_F18) [0]) (LSh.told F18_L2_sh 1 (F18_L2_step)) :=
  loop_ok (E := F18_E) (F18_Eok) (told := F18_told) (l := F18_L2_sh) (step := F18_L2_step) (loopsOK_of (ls := []) (by kernel_rfl) trivial) (by kernel_rfl) (fun v => by kernel_rfl)
theorem F18_ok : FOK Tryz.prog n_F18 F18_sh F18_fo F18 :=
  fn_ok (E := F18_E) (F18_Eok) (told := F18_told) (fl := []) (c := bodyOf fn_F18) (s := F18_sh) (l := F18_fo) (tree := F18_t) fnat_F18 (by kernel_rfl) (by kernel_rfl) (by kernel_rfl) (loopsOK_of (ls := [loopAt (bodyOf fn_F18) [0]]) (by kernel_rfl) ⟨.inr ⟨_, by kernel_rfl, F18_L2_ok⟩, trivial⟩) (fun v => by kernel_rfl)

def F43_sh : FSh := ⟨[(.one (.pf 0 0 0)), (.one (.sl (.int .i64) false false))], [(.rcd 0 [(.sl (.int .u8) false true), (.si .i64), (.si .u64)])]⟩

def F43_fo : List FO := [⟨[(.one (.si .i64))], [(.rcd 0 [(.sl (.int .u8) false true), (.si .i64), (.si .u64)])]⟩]
noncomputable def F43_t : ((Unit × List (Int)) × (List (Int) × Int × Int)) → T (Int × (List (Int) × Int × Int)) := fun (((), list), (c_0, c_1, c_2)) =>
 (.sub (F50 (((), ((List.length list) : Int)), (c_0, (c_1, c_2)))) fun z0 =>
 (.test (decide ((0 ≤ z0.1) ∧ (z0.1 < ((List.length list) : Int))))
 (.sub (list[(Int.toNat z0.1)]?) fun z1 =>
 (.ret (z1, (z0.2.1, (z0.2.2.1, z0.2.2.2)))))
 .fail))
noncomputable def F43 (v : ((Unit × List (Int)) × (List (Int) × Int × Int))) : Option (Int × (List (Int) × Int × Int)) := (F43_t v).run
noncomputable def F43_E : TEnv := (E0.add1 n_F50 F50_sh F50_fo F50)
theorem F43_Eok : (F43_E).OK := (E0ok.add1 F50_ok)
noncomputable def F43_told : Nat → Option SealT := fun id => none
theorem F43_ok : FOK Tryz.prog n_F43 F43_sh F43_fo F43 :=
  fn_ok (E := F43_E) (F43_Eok) (told := F43_told) (fl := []) (c := bodyOf fn_F43) (s := F43_sh) (l := F43_fo) (tree := F43_t) fnat_F43 (by kernel_rfl) (by kernel_rfl) (by kernel_rfl) (loopsOK_of (ls := []) (by kernel_rfl) trivial) (fun v => by kernel_rfl)

def F31_sh : FSh := ⟨[(.one (.pf 0 0 0)), (.one (.si .i64))], [(.rcd 0 [(.sl (.int .u8) false true), (.si .i64), (.si .u64)])]⟩

def F31_fo : List FO := [⟨[(.one (.sl (.int .i64) false true))], [(.rcd 0 [(.sl (.int .u8) false true), (.si .i64), (.si .u64)])]⟩]
noncomputable def F31_t : ((Unit × Int) × (List (Int) × Int × Int)) → T (List (Int) × (List (Int) × Int × Int)) := fun (((), most), (c_0, c_1, c_2)) =>
 (.sub (F50 (((), (w64 (most - 2))), (c_0, (c_1, c_2)))) fun z0 =>
 (.sub (F18 (((), (w64 (3 + z0.1))), (z0.2.1, (z0.2.2.1, z0.2.2.2)))) fun z1 =>
 (.sub (F50 (((), (14 : Int)), (z1.2.1.1, (z1.2.1.2.1, z1.2.1.2.2)))) fun z2 =>
 (.test (z2.1 == 0)
 (.sub (F50 (((), ((List.length z1.2.2) : Int)), (z2.2.1, (z2.2.2.1, z2.2.2.2)))) fun z3 =>
 (.test true
 (.sub (F43 (((), (win (List.set (List.set (List.set (List.set (List.set (List.set (List.replicate 6 (0 : Int)) 0 (-1)) 1 (0 : Int)) 2 (1 : Int)) 3 (2 : Int)) 4 (13 : Int)) 5 (4611686018427387904 : Int)) 0 6)), (z3.2.1, (z3.2.2.1, z3.2.2.2)))) fun z4 =>
 (.test (decide ((0 ≤ z3.1) ∧ (z3.1 < ((List.length z1.2.2) : Int))))
 (.sub (z1.2.2[(0 + (Int.toNat z3.1))]?) fun z5 =>
 (.test (decide ((0 + (List.length z1.2.2)) ≤ (List.length (List.set z1.2.2 (0 + (Int.toNat z3.1)) z4.1))))
 (.ret ((win (List.set z1.2.2 (0 + (Int.toNat z3.1)) z4.1) 0 (List.length z1.2.2)), (z4.2.1, (z4.2.2.1, z4.2.2.2))))
 .fail))
 .fail))
 .fail))
 (.test (z2.1 == 1)
 (.test true
 (.test (decide ((1 ≤ (List.length z1.2.2)) ∧ ((List.length z1.2.2) ≤ (List.length z1.2.2))))
 (.test (decide ((1 + ((List.length z1.2.2) - 1)) ≤ (List.length z1.2.2)))
 (.ret ((win z1.2.2 1 ((List.length z1.2.2) - 1)), (z2.2.1, (z2.2.2.1, z2.2.2.2))))
 .fail)
 .fail)
 .fail)
 (.test (z2.1 == 2)
 (.test (decide (((0 : Int) ≤ (0 : Int)) ∧ (0 < ((List.length z1.2.2) : Int))))
 (.sub (z1.2.2[0]?) fun z6 =>
 (.test (decide (((0 : Int) ≤ (1 : Int)) ∧ (1 < ((List.length z1.2.2) : Int))))
 (.sub (z1.2.2[1]?) fun z7 =>
 (.test (decide (((0 : Int) ≤ (0 : Int)) ∧ (0 < ((List.length z1.2.2) : Int))))
 (.sub (z1.2.2[0]?) fun z8 =>
 (.test (decide (((0 : Int) ≤ (1 : Int)) ∧ (1 < ((List.length z1.2.2) : Int))))
 (.sub ((List.set z1.2.2 0 z7)[1]?) fun z9 =>
 (.test (decide ((0 + (List.length z1.2.2)) ≤ (List.length (List.set (List.set z1.2.2 0 z7) 1 z6))))
 (.ret ((win (List.set (List.set z1.2.2 0 z7) 1 z6) 0 (List.length z1.2.2)), (z2.2.1, (z2.2.2.1, z2.2.2.2))))
 .fail))
 .fail))
 .fail))
 .fail))
 .fail)
 (.test (decide ((0 + (List.length z1.2.2)) ≤ (List.length z1.2.2)))
 (.ret ((win z1.2.2 0 (List.length z1.2.2)), (z2.2.1, (z2.2.2.1, z2.2.2.2))))
 .fail)))))))
noncomputable def F31 (v : ((Unit × Int) × (List (Int) × Int × Int))) : Option (List (Int) × (List (Int) × Int × Int)) := (F31_t v).run
noncomputable def F31_E : TEnv := (((E0.add1 n_F50 F50_sh F50_fo F50).add1 n_F18 F18_sh F18_fo F18).add1 n_F43 F43_sh F43_fo F43)
theorem F31_Eok : (F31_E).OK := (((E0ok.add1 F50_ok).add1 F18_ok).add1 F43_ok)
noncomputable def F31_told : Nat → Option SealT := fun id => none
theorem F31_ok : FOK Tryz.prog n_F31 F31_sh F31_fo F31 :=
  fn_ok (E := F31_E) (F31_Eok) (told := F31_told) (fl := [some (.int .i64)]) (c := bodyOf fn_F31) (s := F31_sh) (l := F31_fo) (tree := F31_t) fnat_F31 (by kernel_rfl) (by kernel_rfl) (by kernel_rfl) (loopsOK_of (ls := []) (by kernel_rfl) trivial) (fun v => by kernel_rfl)

def F58_sh : FSh := ⟨[(.one (.pf 0 0 0)), (.one (.si .i64))], [(.rcd 0 [(.sl (.int .u8) false true), (.si .i64), (.si .u64)])]⟩

def F58_fo : List FO := [⟨[(.one .sb)], [(.rcd 0 [(.sl (.int .u8) false true), (.si .i64), (.si .u64)])]⟩]
noncomputable def F58_t : ((Unit × Int) × (List (Int) × Int × Int)) → T (Bool × (List (Int) × Int × Int)) := fun (((), n), (c_0, c_1, c_2)) =>
 (.sub (F50 (((), n), (c_0, (c_1, c_2)))) fun z0 =>
 (.ret ((z0.1 == 0), (z0.2.1, (z0.2.2.1, z0.2.2.2)))))
noncomputable def F58 (v : ((Unit × Int) × (List (Int) × Int × Int))) : Option (Bool × (List (Int) × Int × Int)) := (F58_t v).run
noncomputable def F58_E : TEnv := (E0.add1 n_F50 F50_sh F50_fo F50)
theorem F58_Eok : (F58_E).OK := (E0ok.add1 F50_ok)
noncomputable def F58_told : Nat → Option SealT := fun id => none
theorem F58_ok : FOK Tryz.prog n_F58 F58_sh F58_fo F58 :=
  fn_ok (E := F58_E) (F58_Eok) (told := F58_told) (fl := []) (c := bodyOf fn_F58) (s := F58_sh) (l := F58_fo) (tree := F58_t) fnat_F58 (by kernel_rfl) (by kernel_rfl) (by kernel_rfl) (loopsOK_of (ls := []) (by kernel_rfl) trivial) (fun v => by kernel_rfl)


def curOK (k : Int) (c : List Int × Int × Int) : Prop := (∀ x ∈ c.1, 0 ≤ x ∧ x ≤ 255) ∧ 0 ≤ c.2.1 ∧ c.2.1 ≤ k
theorem curOK.mono {k m : Int} {c : List Int × Int × Int} (h : curOK k c) (hk : k ≤ m) : curOK m c := ⟨h.1, h.2.1, Int.le_trans h.2.2 hk⟩
theorem wu64_id {z : Int} (h1 : 0 ≤ z) (h2 : z ≤ 18446744073709551615) : wu64 z = z := by
  simp [wu64, IntKind.wrap, IntKind.bits, IntKind.signed]; omega
theorem mask_ok (n : Nat) : 0 ≤ w64 (wu64 ((n &&& 255 : Nat) : Int)) ∧ w64 (wu64 ((n &&& 255 : Nat) : Int)) ≤ 255 := by
  have h : n &&& 255 ≤ 255 := Nat.and_le_right
  generalize n &&& 255 = m at h
  rw [wu64_id (by omega) (by omega), w64_id (by omega) (by omega)]
  omega
theorem next_ok {k : Int} {c : List Int × Int × Int} (h : curOK k c) (hk : k < 1000000000000000) : ∃ v c', F49 ((), c) = some (v, c') ∧ (0 ≤ v ∧ v ≤ 255) ∧ curOK (k + 1) c' := by
  obtain ⟨c0, c1, c2⟩ := c
  obtain ⟨h1, h2, h3⟩ := h
  simp only at h1 h2 h3
  have w1 : w64 (c1 + 1) = c1 + 1 := w64_id (by omega) (by omega)
  rw [F49, F49_t]
  by_cases a : c1 < (c0.length : Int)
  · have hlt : c1.toNat < c0.length := by omega
    have hx := h1 c0[c1.toNat] (List.getElem_mem hlt)
    rw [T.run_test, if_pos (decide_eq_true a), T.run_test, if_pos (decide_eq_true (by omega)), T.run_sub, List.getElem?_eq_getElem hlt, Option.bind_some, T.run_test, if_pos (decide_eq_true (by rw [w1]; omega)), T.run_ret, w1]
    have w2 : w64 c0[c1.toNat] = c0[c1.toNat] := w64_id (by omega) (by omega)
    refine ⟨_, _, rfl, by rw [w2]; exact hx, h1, ?_, ?_⟩
    · show 0 ≤ c1 + 1; omega
    · show c1 + 1 ≤ k + 1; omega
  · rw [T.run_test, if_neg (by rw [decide_eq_true_eq]; exact a), T.run_test, if_neg (by rw [decide_eq_true_eq, w1]; omega), T.run_ret, w1]
    refine ⟨_, _, rfl, mask_ok _, h1, ?_, ?_⟩
    · show 0 ≤ c1 + 1; omega
    · show c1 + 1 ≤ k + 1; omega
theorem pick_ok {k : Int} {c : List Int × Int × Int} (n : Int) (h : curOK k c) (hk : k < 100000000000000) : ∃ v c', F50 (((), n), c) = some (v, c') ∧ 0 ≤ v ∧ (1 ≤ n → v < n) ∧ (n ≤ 1 → v = 0) ∧ curOK (k + 2) c' := by
  obtain ⟨c0, c1, c2⟩ := c
  rw [F50, F50_t]
  by_cases a : n ≤ 1
  · rw [T.run_test, if_pos (decide_eq_true a), T.run_ret]
    exact ⟨0, _, rfl, Int.le_refl _, fun h => by omega, fun _ => rfl, h.mono (by omega)⟩
  · obtain ⟨v, ⟨d0, d1, d2⟩, e, hv, hc⟩ := next_ok h (by omega)
    rw [T.run_test, if_neg (by rw [decide_eq_true_eq]; exact a), T.run_sub, e, Option.bind_some, T.run_test]
    by_cases b : n > 200
    · obtain ⟨u, ⟨f0, f1, f2⟩, e2, hu, hc2⟩ := next_ok hc (by omega)
      rw [if_pos (decide_eq_true b), T.run_sub, e2, Option.bind_some, T.run_test, if_pos (decide_eq_true (by omega)), T.run_ret]
      have w : w64 (w64 (v * 256) + u) = v * 256 + u := by rw [w64_id (z := v * 256) (by omega) (by omega), w64_id (by omega) (by omega)]
      refine ⟨_, _, rfl, ?_, fun _ => ?_, fun h => absurd h a, hc2.mono (by omega)⟩
      · rw [w]; exact Int.tmod_nonneg _ (by omega)
      · rw [w]; exact Int.tmod_lt_of_pos _ (by omega)
    · rw [if_neg (by rw [decide_eq_true_eq]; exact b), T.run_test, if_pos (decide_eq_true (by omega)), T.run_ret]
      exact ⟨_, _, rfl, Int.tmod_nonneg _ (by omega), fun _ => Int.tmod_lt_of_pos _ (by omega), fun h => absurd h a, hc.mono (by omega)⟩
theorem among_ok {k : Int} {c : List Int × Int × Int} (l : List Int) (h : curOK k c) (hk : k < 100000000000000) (hl : 1 ≤ l.length) : ∃ v c', F43 (((), l), c) = some (v, c') ∧ v ∈ l ∧ curOK (k + 2) c' := by
  obtain ⟨c0, c1, c2⟩ := c
  obtain ⟨v, ⟨d0, d1, d2⟩, e, h0, h1, _, hc⟩ := pick_ok (l.length : Int) h hk
  have h1 := h1 (by omega)
  have hlt : v.toNat < l.length := by omega
  rw [F43, F43_t, T.run_sub, e, Option.bind_some, T.run_test, if_pos (decide_eq_true (by omega)), T.run_sub, List.getElem?_eq_getElem hlt, Option.bind_some, T.run_ret]
  exact ⟨_, _, rfl, List.getElem_mem hlt, hc⟩
theorem one_ok {k : Int} {c : List Int × Int × Int} (n : Int) (h : curOK k c) (hk : k < 100000000000000) : ∃ v c', F58 (((), n), c) = some (v, c') ∧ curOK (k + 2) c' := by
  obtain ⟨c0, c1, c2⟩ := c
  obtain ⟨v, ⟨d0, d1, d2⟩, e, _, _, _, hc⟩ := pick_ok n h hk
  rw [F58, F58_t, T.run_sub, e, Option.bind_some, T.run_ret]
  exact ⟨_, _, rfl, hc⟩
def bytesOK (code : List Int) : Prop := ∀ x ∈ code, 0 ≤ x ∧ x ≤ 255
theorem cur0 {code : List Int} (h : bytesOK code) : curOK 0 (code, ((0 : Int), (0 : Int))) := ⟨h, Int.le_refl _, Int.le_refl _⟩



theorem win_len {α : Type} (xs : List α) (o n : Nat) (h : o + n ≤ xs.length) : (win xs o n).length = n := by unfold win; rw [List.length_take, List.length_drop]; omega
theorem win_le {α : Type} (xs : List α) (o n : Nat) : (win xs o n).length ≤ xs.length := by unfold win; rw [List.length_take, List.length_drop]; omega
theorem sureQ_loop (n : Int) (hn : n ≤ 20) : ∀ (m : Nat) (K : Int) (c : List Int × Int × Int) (out : List Int), curOK K c → K + 2 * (m : Int) < 10000000000 → 3 ≤ out.length → out.length ≤ 20 → 20 ≤ out.length + m →
    ∃ c' out', F18_L2 (((), (n, ())), (c, out)) = some ((), (c', out')) ∧ 3 ≤ out'.length ∧ out'.length ≤ 20 ∧ curOK (K + 2 * (m : Int)) c' := by
  intro m
  induction m with
  | zero =>
    intro K c out h hK h3 h20 hm
    obtain ⟨c0, c1, c2⟩ := c
    have c9 : ¬ ((out.length : Int) < n) := by omega
    refine ⟨_, out, ?_, h3, h20, h.mono (by omega)⟩
    simp only [F18_L2]
    exact loopO_done (by simp [F18_L2_step, T.run, c9])
  | succ m ih =>
    intro K c out h hK h3 h20 hm
    obtain ⟨c0, c1, c2⟩ := c
    by_cases c9 : (out.length : Int) < n
    · obtain ⟨v, ⟨d0, d1, d2⟩, e, h0, h1, h2, hc⟩ := pick_ok (out.length : Int) h (by omega)
      have h1 := h1 (by omega)
      obtain ⟨v, rfl⟩ := Int.eq_ofNat_of_zero_le h0
      have w1 : w64 (1 + (v : Int)) = ((v + 1 : Nat) : Int) := by rw [w64_id (by omega) (by omega)]; omega
      have w2 : w64 (((v + 1 : Nat) : Int) - 1) = (v : Int) := by rw [w64_id (by omega) (by omega)]; omega
      have w3 : w64 (((v + 1 : Nat) : Int) + 1) = ((v + 2 : Nat) : Int) := by rw [w64_id (by omega) (by omega)]; omega
      have hv : v < out.length := by omega
      have l1 : (win out 0 (v + 1)).length = v + 1 := win_len _ _ _ (by omega)
      have l2 : (win out (v + 1) (out.length - (v + 1))).length = out.length - (v + 1) := win_len _ _ _ (by omega)
      have ow := F86_eq (win out 0 (v + 1)) (by omega)
      obtain ⟨W1, hW1⟩ : ∃ W, W = win out 0 (v + 1) := ⟨_, rfl⟩
      obtain ⟨W2, hW2⟩ : ∃ W, W = win out (v + 1) (out.length - (v + 1)) := ⟨_, rfl⟩
      rw [← hW1] at l1 ow
      rw [← hW2] at l2
      have hw : win (W1 ++ [1]) 0 (v + 1 + 1) = W1 ++ [1] := by
        have := win_all (W1 ++ [(1 : Int)])
        rwa [List.length_append, l1] at this
      have hwa : win W1 0 (v + 1) = W1 := by have := win_all W1; rwa [l1] at this
      obtain ⟨L, hL⟩ : ∃ L, L = (W1 ++ [1]) ++ W2 := ⟨_, rfl⟩
      have hLl : L.length = v + 1 + 1 + (out.length - (v + 1)) := by rw [hL]; simp [l1, l2]; omega
      have t1 : Int.tmod ((v + 2 : Nat) : Int) ((v + 1 + 1 + (out.length - (v + 1)) : Nat) : Int) = (((v + 2) % (v + 1 + 1 + (out.length - (v + 1))) : Nat) : Int) := by
        rw [Int.tmod_eq_emod_of_nonneg (by omega)]
        rfl
      have t2 : (v + 2) % (v + 1 + 1 + (out.length - (v + 1))) < v + 1 + 1 + (out.length - (v + 1)) := Nat.mod_lt _ (by omega)
      generalize hq : (v + 2) % (v + 1 + 1 + (out.length - (v + 1))) = q at t1 t2
      have g1 : L[v]? = some (L[v]'(by omega)) := List.getElem?_eq_getElem _
      obtain ⟨x, hx⟩ : ∃ x, L[v]? = some x := ⟨_, g1⟩
      obtain ⟨y, hy⟩ : ∃ y, (L.set v (w64 (x + 1)))[q]? = some y := ⟨_, List.getElem?_eq_getElem (by rw [List.length_set]; omega)⟩
      obtain ⟨c', out', e2, r1, r2, r3⟩ := ih (K + 2) (d0, d1, d2) ((L.set v (w64 (x + 1))).set q (w64 (y + 1))) hc (by omega) (by simp only [List.length_set]; omega) (by simp only [List.length_set]; omega) (by simp only [List.length_set]; omega)
      refine ⟨c', out', ?_, r1, r2, r3.mono (by omega)⟩
      simp only [F18_L2] at e2 ⊢
      rw [← e2]
      refine loopO_next ?_
      have a1 : (0 : Int) ≤ ((v + 1 : Nat) : Int) := by omega
      have a2 : 0 ≤ v + 1 ∧ v + 1 ≤ out.length := by omega
      have a3 : 0 + (v + 1 - 0) ≤ out.length := by omega
      have a4 : 2 * ((v + 1 + 1) * 9) ≤ 140737488355328 := by omega
      have a5 : v + 1 ≤ out.length ∧ out.length ≤ out.length := by omega
      have a6 : 0 + (v + 1) + (out.length - (v + 1)) ≤ out.length := by omega
      have a7 : 2 * ((v + 1 + 1 + (out.length - (v + 1))) * 9) ≤ 140737488355328 := by omega
      have a8 : (0 : Int) ≤ (v : Int) ∧ (v : Int) < ((v + 1 + 1 + (out.length - (v + 1)) : Nat) : Int) := by omega
      have a9 : ((v + 1 + 1 + (out.length - (v + 1)) : Nat) : Int) ≠ 0 := by omega
      have a10 : (0 : Int) ≤ (q : Int) ∧ (q : Int) < ((v + 1 + 1 + (out.length - (v + 1)) : Nat) : Int) := by omega
      rw [F18_L2_step, T.run_test, if_pos (decide_eq_true c9), T.run_sub, e, Option.bind_some]
      simp only [w1, Int.toNat_natCast, Nat.sub_zero, Nat.zero_add, ← hW1, ← hW2]
      rw [T.run_test, if_pos (decide_eq_true a1), T.run_test, if_pos (decide_eq_true a2), T.run_test, if_pos (decide_eq_true (by omega)), T.run_sub, ow, Option.bind_some]
      simp only [l1, l2, hwa, win_one, hw, w2, w3, Int.toNat_natCast, ← hL, List.length_append, List.length_singleton]
      have e0 : (((v + 1 : Nat) : Int) + 1 + ((out.length - (v + 1) : Nat) : Int)) = ((v + 1 + 1 + (out.length - (v + 1)) : Nat) : Int) := by push_cast; omega
      simp only [e0, t1, Int.toNat_natCast, List.length_set, hLl]
      rw [T.run_test, if_pos (by first | rfl | exact decide_eq_true (by omega))]
      rw [T.run_test, if_pos (by first | rfl | exact decide_eq_true (by omega))]
      rw [T.run_test, if_pos (by first | rfl | exact decide_eq_true (by omega))]
      rw [T.run_test, if_pos (by first | rfl | exact decide_eq_true (by omega))]
      rw [T.run_test, if_pos (by first | rfl | exact decide_eq_true (by omega))]
      rw [T.run_test, if_pos (by first | rfl | exact decide_eq_true (by omega))]
      rw [T.run_test, if_pos (by first | rfl | exact decide_eq_true (by omega))]
      rw [T.run_test, if_pos (by first | rfl | exact decide_eq_true (by omega))]
      rw [T.run_test, if_pos (by first | rfl | exact decide_eq_true (by omega))]
      rw [T.run_sub, hx, Option.bind_some]
      rw [T.run_test, if_pos (by first | rfl | exact decide_eq_true (by omega))]
      rw [T.run_sub, Option.bind_some]
      rw [T.run_test, if_pos (by first | rfl | exact decide_eq_true (by omega))]
      rw [T.run_test, if_pos (by first | rfl | exact decide_eq_true (by omega))]
      rw [T.run_sub, hy, Option.bind_some]
      rw [T.run_test, if_pos (by first | rfl | exact decide_eq_true (by omega))]
      rw [T.run_sub, Option.bind_some]
      rw [T.run_test, if_pos (by simp)]
      rfl
    · refine ⟨_, out, ?_, h3, h20, h.mono (by omega)⟩
      simp only [F18_L2]
      exact loopO_done (by simp [F18_L2_step, T.run, c9])
theorem sureQ_ok {K : Int} {c : List Int × Int × Int} (n : Int) (hn : n ≤ 20) (h : curOK K c) (hK : K < 1000000000) :
    ∃ c' out', F18 (((), n), c) = some ((), (c', out')) ∧ 3 ≤ out'.length ∧ out'.length ≤ 20 ∧ curOK (K + 40) c' := by
  obtain ⟨c0, c1, c2⟩ := c
  obtain ⟨⟨d0, d1, d2⟩, out', e, h1, h2, h3⟩ := sureQ_loop n hn 17 K (c0, c1, c2) [1, 1, 1] h (by omega) (by simp) (by simp) (by simp)
  refine ⟨(d0, d1, d2), out', ?_, h1, h2, h3.mono (by omega)⟩
  rw [F18, F18_t, T.run_test, if_pos (by simp), T.run_sub, show (List.set (List.set (List.set (List.replicate 3 (0 : Int)) 0 (1 : Int)) 1 (1 : Int)) 2 (1 : Int)) = [1, 1, 1] from rfl, e, Option.bind_some, T.run_test, if_pos (by simp), T.run_ret]
theorem quiddity_okN {K : Int} {c : List Int × Int × Int} (N : Int) (hN : 3 ≤ N ∧ N ≤ 12) (h : curOK K c) (hK : K < 100000000) :
    ∃ l c', F31 (((), N), c) = some (l, c') ∧ l.length ≤ 20 ∧ curOK (K + 60) c' := by
  obtain ⟨c0, c1, c2⟩ := c
  obtain ⟨v, ⟨d0, d1, d2⟩, e, h0, h1, _, hc⟩ := pick_ok (N - 2) h (by omega)
  have h1 := h1 (by omega)
  have w0 : w64 (N - 2) = N - 2 := w64_id (by omega) (by omega)
  have w1 : w64 (3 + v) = 3 + v := w64_id (by omega) (by omega)
  obtain ⟨⟨a0, a1, a2⟩, out, e2, g1, g2, hc2⟩ := sureQ_ok (3 + v) (by omega) hc (by omega)
  obtain ⟨u, ⟨b0, b1, b2⟩, e3, _, _, _, hc3⟩ := pick_ok 14 hc2 (by omega)
  rw [F31, F31_t, T.run_sub, w0, e, Option.bind_some, T.run_sub, w1, e2, Option.bind_some, T.run_sub, e3, Option.bind_some, T.run_test]
  dsimp only
  by_cases u0 : (u == 0) = true
  · obtain ⟨x, ⟨f0, f1, f2⟩, e4, i0, i1, _, hc4⟩ := pick_ok (out.length : Int) hc3 (by omega)
    have i1 := i1 (by omega)
    obtain ⟨y, ⟨j0, j1, j2⟩, e5, _, hc5⟩ := among_ok [-1, 0, 1, 2, 13, 4611686018427387904] hc4 (by omega) (by simp)
    have hlt : 0 + x.toNat < out.length := by omega
    have hw : (win (List.set (List.set (List.set (List.set (List.set (List.set (List.replicate 6 (0 : Int)) 0 (-1)) 1 (0 : Int)) 2 (1 : Int)) 3 (2 : Int)) 4 (13 : Int)) 5 (4611686018427387904 : Int)) 0 6) = [-1, 0, 1, 2, 13, 4611686018427387904] := rfl
    rw [if_pos u0, T.run_sub, e4, Option.bind_some, T.run_test, if_pos rfl, T.run_sub, hw, e5, Option.bind_some, T.run_test, if_pos (decide_eq_true ⟨i0, i1⟩), T.run_sub, List.getElem?_eq_getElem hlt, Option.bind_some, T.run_test, if_pos (by simp), T.run_ret]
    refine ⟨_, _, rfl, ?_, hc5.mono (by omega)⟩
    dsimp only
    have := win_le (out.set (0 + x.toNat) y) 0 out.length
    rw [List.length_set] at this
    omega
  rw [if_neg u0, T.run_test]
  by_cases u1 : (u == 1) = true
  · rw [if_pos u1, T.run_test, if_pos rfl, T.run_test, if_pos (decide_eq_true (by omega)), T.run_test, if_pos (decide_eq_true (by omega)), T.run_ret]
    have := win_le out 1 (out.length - 1)
    exact ⟨_, _, rfl, by omega, hc3.mono (by omega)⟩
  rw [if_neg u1, T.run_test]
  by_cases u2 : (u == 2) = true
  · have p0 : 0 < out.length := by omega
    have p1 : 1 < out.length := by omega
    have hs : 1 < (out.set 0 out[1]).length := by rw [List.length_set]; exact p1
    rw [if_pos u2, T.run_test, if_pos (decide_eq_true (by omega)), T.run_sub, List.getElem?_eq_getElem p0, Option.bind_some, T.run_test, if_pos (decide_eq_true (by omega)), T.run_sub, List.getElem?_eq_getElem p1, Option.bind_some,
      T.run_test, if_pos (decide_eq_true (by omega)), T.run_sub, Option.bind_some, T.run_test, if_pos (decide_eq_true (by omega)), T.run_sub, List.getElem?_eq_getElem hs, Option.bind_some, T.run_test, if_pos (by simp), T.run_ret]
    refine ⟨_, _, rfl, ?_, hc3.mono (by omega)⟩
    have := win_le ((out.set 0 out[1]).set 1 out[0]) 0 out.length
    simp only [List.length_set] at this
    omega
  rw [if_neg u2, T.run_test, if_pos (by simp), T.run_ret]
  refine ⟨_, _, rfl, ?_, hc3.mono (by omega)⟩
  have := win_le out 0 out.length
  omega
def F15_sh : FSh := ⟨[(.one (.sl (.int .u8) false true))], []⟩

def F15_fo : List FO := [⟨[(.one (.sl (.int .i64) false true))], []⟩]
noncomputable def F15_t : List (Int) → T (List (Int)) := fun code =>
 (.sub (F31 (((), (12 : Int)), (code, ((0 : Int), (0 : Int))))) fun z0 =>
 (.ret z0.1))
noncomputable def F15 (v : List (Int)) : Option (List (Int)) := (F15_t v).run
noncomputable def F15_E : TEnv := (E0.add1 n_F31 F31_sh F31_fo F31)
theorem F15_Eok : (F15_E).OK := (E0ok.add1 F31_ok)
noncomputable def F15_told : Nat → Option SealT := fun id => none
theorem F15_ok : FOK Tryz.prog n_F15 F15_sh F15_fo F15 :=
  fn_ok (E := F15_E) (F15_Eok) (told := F15_told) (fl := []) (c := bodyOf fn_F15) (s := F15_sh) (l := F15_fo) (tree := F15_t) fnat_F15 (by kernel_rfl) (by kernel_rfl) (by kernel_rfl) (loopsOK_of (ls := []) (by kernel_rfl) trivial) (fun v => by kernel_rfl)

theorem F15_some {code : List Int} (h : bytesOK code) : ∃ l, F15 code = some l ∧ l.length ≤ 20 := by
  obtain ⟨l, c', e, hl, _⟩ := quiddity_okN 12 (by omega) (cur0 h) (by omega)
  rw [F15, F15_t, T.run_sub, e, Option.bind_some, T.run_ret]
  exact ⟨_, rfl, hl⟩


def F25_sh : FSh := ⟨[(.one (.sl (.int .u8) false true))], []⟩

def F25_fo : List FO := [⟨[(.one (.sl (.int .i64) false true))], []⟩]
noncomputable def F25_t : List (Int) → T (List (Int)) := fun code =>
 (.sub (F15 code) fun z0 =>
 (.ret z0))
noncomputable def F25 (v : List (Int)) : Option (List (Int)) := (F25_t v).run
noncomputable def F25_E : TEnv := (E0.add1 n_F15 F15_sh F15_fo F15)
theorem F25_Eok : (F25_E).OK := (E0ok.add1 F15_ok)
noncomputable def F25_told : Nat → Option SealT := fun id => none
theorem F25_ok : FOK Tryz.prog n_F25 F25_sh F25_fo F25 :=
  fn_ok (E := F25_E) (F25_Eok) (told := F25_told) (fl := []) (c := bodyOf fn_F25) (s := F25_sh) (l := F25_fo) (tree := F25_t) fnat_F25 (by kernel_rfl) (by kernel_rfl) (by kernel_rfl) (loopsOK_of (ls := []) (by kernel_rfl) trivial) (fun v => by kernel_rfl)

theorem F25_some {code : List Int} (h : bytesOK code) : ∃ l, F25 code = some l ∧ l.length ≤ 20 := by
  obtain ⟨l, e, hl⟩ := F15_some h
  rw [F25, F25_t, T.run_sub, e, Option.bind_some, T.run_ret]
  exact ⟨_, rfl, hl⟩


def F80_sh : FSh := ⟨[(.one (.si .i64)), (.one (.si .i64)), (.one (.si .i64))], []⟩

def F80_fo : List FO := [⟨[(.one .sb)], []⟩]
noncomputable def F80_t : (Int × Int × Int) → T Bool := fun (n, low, high) =>
 (.test (decide (n ≥ low))
 (.ret (decide (n ≤ high)))
 (.ret false))
noncomputable def F80 (v : (Int × Int × Int)) : Option Bool := (F80_t v).run
noncomputable def F80_E : TEnv := E0
theorem F80_Eok : (F80_E).OK := E0ok
noncomputable def F80_told : Nat → Option SealT := fun id => none
theorem F80_ok : FOK Tryz.prog n_F80 F80_sh F80_fo F80 :=
  fn_ok (E := F80_E) (F80_Eok) (told := F80_told) (fl := []) (c := bodyOf fn_F80) (s := F80_sh) (l := F80_fo) (tree := F80_t) fnat_F80 (by kernel_rfl) (by kernel_rfl) (by kernel_rfl) (loopsOK_of (ls := []) (by kernel_rfl) trivial) (fun v => by kernel_rfl)

theorem F80_eq (n low high : Int) : F80 (n, low, high) = some (inB low high n) := by
  simp only [F80, F80_t, T.run, ge_iff_le, decide_eq_true_eq, inB]
  by_cases h : low ≤ n <;> simp [h]


def F59_sh : FSh := ⟨[(.one (.si .i64))], []⟩

def F59_fo : List FO := [⟨[(.one .sb)], []⟩]
noncomputable def F59_t : Int → T Bool := fun n =>
 (.sub (F80 (n, ((3 : Int), (12 : Int)))) fun z0 =>
 (.ret z0))
noncomputable def F59 (v : Int) : Option Bool := (F59_t v).run
noncomputable def F59_E : TEnv := (E0.add1 n_F80 F80_sh F80_fo F80)
theorem F59_Eok : (F59_E).OK := (E0ok.add1 F80_ok)
noncomputable def F59_told : Nat → Option SealT := fun id => none
theorem F59_ok : FOK Tryz.prog n_F59 F59_sh F59_fo F59 :=
  fn_ok (E := F59_E) (F59_Eok) (told := F59_told) (fl := []) (c := bodyOf fn_F59) (s := F59_sh) (l := F59_fo) (tree := F59_t) fnat_F59 (by kernel_rfl) (by kernel_rfl) (by kernel_rfl) (loopsOK_of (ls := []) (by kernel_rfl) trivial) (fun v => by kernel_rfl)

def F32_sh : FSh := ⟨[.one (.sl (.int .i64) false false)], []⟩
def F32_fo : List FO := [⟨[.one (.rw 0 0)], [.row 0 (.int .i64)]⟩]
def F32 (v : List Int) : Option (Unit × List Int) := if v.length ≤ maxLen ∧ v.length * 8 ≤ 140737488355328 then some ((), v) else none
def F32_ren : Shelf.Ren := ⟨fun _ => n_F32, fun t => if t = 4 then 4 else if t = 22 then 51 else 3, fun x => x⟩
theorem F32_lay : SlLaysE0.n41 Tryz.prog F32_ren :=
  { mixed := by kernel_rfl, f41 := ⟨"slices.Clone[[]int,int]", by kernel_rfl, by kernel_rfl⟩, t4 := by kernel_rfl, a4 := fun w => by kernel_rfl, z4 := fun w => by kernel_rfl, v4 := fun w => by kernel_rfl, t22 := by kernel_rfl, a22 := fun w => by kernel_rfl, z22 := fun w => by kernel_rfl, v22 := fun w => by kernel_rfl }
noncomputable def F32_info : TypeInfo := (Tryz.prog.info? 3).get (by kernel_rfl)
theorem F32_ok : FOK Tryz.prog n_F32 F32_sh F32_fo F32 :=
  clone_ok (e := .int .i64) ⟨_, fnat_F32, by kernel_rfl, by kernel_rfl⟩ (ρr := F32_ren) rfl F32_lay rfl F32_info (.int .i64 0) 8 (by kernel_rfl) (by kernel_rfl) (by kernel_rfl) (by kernel_rfl) (by decide) (by decide) (fun w => by kernel_rfl)

def F33_sh : FSh := ⟨[(.one (.sl (.int .i64) false false)), (.one (.si .i64))], []⟩

def F33_L2_sh : LSh := ⟨(fun ex => match ex with | .norm => [(0, none), (1, none), (7, none), (8, none)] | .exit i => if i = 0 then [] else [] | .ret => [(4, none)]), [(0, (.one (.sl (.int .i64) false false))), (1, (.one (.si .i64))), (7, (.one (.si .i64))), (8, (.one (.si .i64)))], [], [⟨.ret, [(4, (.one (.si .i64)))], []⟩, ⟨(.exit 0), [], []⟩], [], []⟩
noncomputable def F33_L2_step : (List (Int) × Int × Int × Int) → T ((List (Int) × Int × Int × Int) ⊕ (Int ⊕ Unit)) := fun (s, v, t7, t8) =>
 (.test (decide (t8 < t7))
 (.test (decide ((0 ≤ t8) ∧ (t8 < ((List.length s) : Int))))
 (.sub (s[(Int.toNat t8)]?) fun z0 =>
 (.test (v == z0)
 (.ret (Sum.inr (Sum.inl t8)))
 (.ret (Sum.inl (s, (v, (t7, (w64 (t8 + 1)))))))))
 .fail)
 (.ret (Sum.inr (Sum.inr ()))))
noncomputable def F33_L2 (v : (List (Int) × Int × Int × Int)) : Option (Int ⊕ Unit) := loopO (fun v => (F33_L2_step v).run) v

def F33_fo : List FO := [⟨[(.one (.si .i64))], []⟩]
noncomputable def F33_t : (List (Int) × Int) → T Int := fun (s, v) =>
 (.sub (F33_L2 (s, (v, (((List.length s) : Int), (0 : Int))))) fun z0 =>
 (.test (Sum.isLeft z0)
 (.sub (Sum.getLeft? z0) fun z1 =>
 (.ret z1))
 (.sub (Sum.getRight? z0) fun z2 =>
 (.ret (-1)))))
noncomputable def F33 (v : (List (Int) × Int)) : Option Int := (F33_t v).run
noncomputable def F33_E : TEnv := E0
theorem F33_Eok : (F33_E).OK := E0ok
noncomputable def F33_told : Nat → Option SealT := fun id => if id = 2 then some (LSh.told F33_L2_sh 0 (F33_L2_step)) else none
theorem F33_L2_ok : ToldOK Tryz.prog 0 (loopAt (bodyOf fn_F33) [0]) (LSh.told F33_L2_sh 0 (F33_L2_step)) :=
  loop_ok (E := F33_E) (F33_Eok) (told := F33_told) (l := F33_L2_sh) (step := F33_L2_step) (loopsOK_of (ls := []) (by kernel_rfl) trivial) (by kernel_rfl) (fun v => by kernel_rfl)
theorem F33_ok : FOK Tryz.prog n_F33 F33_sh F33_fo F33 :=
  fn_ok (E := F33_E) (F33_Eok) (told := F33_told) (fl := []) (c := bodyOf fn_F33) (s := F33_sh) (l := F33_fo) (tree := F33_t) fnat_F33 (by kernel_rfl) (by kernel_rfl) (by kernel_rfl) (loopsOK_of (ls := [loopAt (bodyOf fn_F33) [0]]) (by kernel_rfl) ⟨.inr ⟨_, by kernel_rfl, F33_L2_ok⟩, trivial⟩) (fun v => by kernel_rfl)

theorem F33_eq (s : List Int) (v : Int) (hl : s.length < 4611686018427387904) : F33 (s, v) = some (idxI (fun x => v == x) s) := by
  have h := loop_find (step := fun v => (F33_L2_step v).run) (xs := s) (fun x => v == x) (fun k => (s, (v, ((s.length : Int), (k : Int))))) (fun k => .inl (k : Int)) (.inr ())
    (fun k x hx => by
      have hlt := getElem?_lt hx
      have h1 : (k : Int) < (s.length : Int) := by omega
      have h2 : (0 : Int) ≤ k ∧ (k : Int) < (s.length : Int) := by omega
      simp only [F33_L2_step, T.run, Int.toNat_natCast, hx, Option.bind_some, h1, h2, decide_true, if_true, and_self]
      rw [w64_id (z := (k : Int) + 1) (by omega) (by omega)]
      cases hv : (v == x) <;> simp [hv])
    (by simp [F33_L2_step, T.run])
  rw [show ((0 : Nat) : Int) = 0 from rfl] at h
  simp only [F33, F33_t, T.run, F33_L2]
  rw [h]
  simp only [idxI]
  cases hf : s.findIdx? (fun x => v == x) <;> simp [Sum.isLeft, hf]


def F26_sh : FSh := ⟨[.one (.rw 0 0), .one (.si .i64), .one (.si .i64)], [.row 0 (.int .i64)]⟩
def F26_fo : List FO := [⟨[.one (.rw 0 0)], [.row 0 (.int .i64)]⟩]
def F26 (v : (Unit × Int × Int) × List Int) : Option (Unit × List Int) := if 0 ≤ v.1.2.1 ∧ v.1.2.1 < v.1.2.2 ∧ v.1.2.2 ≤ (v.2.length : Int) ∧ v.2.length ≤ 4611686018427387904 then some ((), v.2.take v.1.2.1.toNat ++ v.2.drop v.1.2.2.toNat) else none
def F26_ren : Shelf.Ren := ⟨fun _ => n_F26, fun t => if t = 0 then 0 else if t = 3 then 3 else if t = 4 then 4 else if t = 22 then 51 else 3, fun x => x⟩
theorem F26_lay : SlLaysE0.n45 Tryz.prog F26_ren :=
  { mixed := by kernel_rfl, f45 := ⟨"slices.Delete[[]int,int]", by kernel_rfl, by kernel_rfl⟩, t0 := by kernel_rfl, a0 := fun w => by kernel_rfl, z0 := fun w => by kernel_rfl, v0 := fun w => by kernel_rfl, t3 := by kernel_rfl, a3 := fun w => by kernel_rfl, z3 := fun w => by kernel_rfl, v3 := fun w => by kernel_rfl, t4 := by kernel_rfl, a4 := fun w => by kernel_rfl, z4 := fun w => by kernel_rfl, v4 := fun w => by kernel_rfl, t22 := by kernel_rfl, a22 := fun w => by kernel_rfl, z22 := fun w => by kernel_rfl, v22 := fun w => by kernel_rfl }
noncomputable def F26_info : TypeInfo := (Tryz.prog.info? 3).get (by kernel_rfl)
theorem F26_ok : FOK Tryz.prog n_F26 F26_sh F26_fo F26 :=
  delete_ok ⟨_, fnat_F26, by kernel_rfl, by kernel_rfl⟩ (ρr := F26_ren) rfl F26_lay (fun w => by kernel_rfl) (fun w => by kernel_rfl) (fun w => by kernel_rfl) F26_info (by kernel_rfl) (by kernel_rfl)

def F44_sh : FSh := ⟨[.one (.si .u64)], []⟩
def F44_fo : List FO := [⟨[.one (.si .i64)], []⟩]
def F44 (x : Int) : Option Int := if 0 ≤ x ∧ x ≤ 18446744073709551615 then some (Lib.bitLen x.toNat : Int) else none
def F44_ren : Shelf.Ren := ⟨fun k => if k = 125 then n_F44 else if k = 128 then 217 else 218, fun t => if t = 3 then 3 else if t = 4 then 4 else if t = 5 then 5 else if t = 9 then 9 else if t = 46 then 129 else if t = 51 then 153 else 89, fun x => x⟩
theorem F44_lay : Lays.n125 Tryz.prog F44_ren :=
  { mixed := by kernel_rfl, f125 := by kernel_rfl, f128 := by kernel_rfl, f129 := by kernel_rfl, t3 := by kernel_rfl, a3 := fun w => by kernel_rfl, z3 := fun w => by kernel_rfl, v3 := fun w => by kernel_rfl, t4 := by kernel_rfl, a4 := fun w => by kernel_rfl, z4 := fun w => by kernel_rfl, v4 := fun w => by kernel_rfl, t5 := by kernel_rfl, a5 := fun w => by kernel_rfl, z5 := fun w => by kernel_rfl, v5 := fun w => by kernel_rfl, t9 := by kernel_rfl, a9 := fun w => by kernel_rfl, z9 := fun w => by kernel_rfl, v9 := fun w => by kernel_rfl, t46 := by kernel_rfl, a46 := fun w => by kernel_rfl, z46 := fun w => by kernel_rfl, v46 := fun w => by kernel_rfl, t51 := by kernel_rfl, a51 := fun w => by kernel_rfl, z51 := fun w => by kernel_rfl, v51 := fun w => by kernel_rfl, t53 := by kernel_rfl, a53 := fun w => by kernel_rfl, z53 := fun w => by kernel_rfl, v53 := fun w => by kernel_rfl }
theorem F44_ok : FOK Tryz.prog n_F44 F44_sh F44_fo F44 :=
  bitsLen_ok ⟨_, fnat_F44, by kernel_rfl, by kernel_rfl⟩ (ρr := F44_ren) rfl F44_lay

def F45_sh : FSh := ⟨[(.one (.si .i64))], []⟩

def F45_fo : List FO := [⟨[(.one .sb)], []⟩]
noncomputable def F45_t : Int → T Bool := fun x =>
 (.ret (x != x))
noncomputable def F45 (v : Int) : Option Bool := (F45_t v).run
noncomputable def F45_E : TEnv := E0
theorem F45_Eok : (F45_E).OK := E0ok
noncomputable def F45_told : Nat → Option SealT := fun id => none
theorem F45_ok : FOK Tryz.prog n_F45 F45_sh F45_fo F45 :=
  fn_ok (E := F45_E) (F45_Eok) (told := F45_told) (fl := []) (c := bodyOf fn_F45) (s := F45_sh) (l := F45_fo) (tree := F45_t) fnat_F45 (by kernel_rfl) (by kernel_rfl) (by kernel_rfl) (loopsOK_of (ls := []) (by kernel_rfl) trivial) (fun v => by kernel_rfl)

def F38_sh : FSh := ⟨[(.one (.si .i64)), (.one (.si .i64))], []⟩

def F38_fo : List FO := [⟨[(.one (.si .i64))], []⟩]
noncomputable def F38_t : (Int × Int) → T Int := fun (x, y) =>
 (.sub (F45 x) fun z0 =>
 (.sub (F45 y) fun z1 =>
 (.test z0
 (.test z1
 (.ret (0 : Int))
 (.ret (-1)))
 (.test z1
 (.ret (1 : Int))
 (.test (decide (x < y))
 (.ret (-1))
 (.test (decide (x > y))
 (.ret (1 : Int))
 (.ret (0 : Int))))))))
noncomputable def F38 (v : (Int × Int)) : Option Int := (F38_t v).run
noncomputable def F38_E : TEnv := (E0.add1 n_F45 F45_sh F45_fo F45)
theorem F38_Eok : (F38_E).OK := (E0ok.add1 F45_ok)
noncomputable def F38_told : Nat → Option SealT := fun id => none
theorem F38_ok : FOK Tryz.prog n_F38 F38_sh F38_fo F38 :=
  fn_ok (E := F38_E) (F38_Eok) (told := F38_told) (fl := []) (c := bodyOf fn_F38) (s := F38_sh) (l := F38_fo) (tree := F38_t) fnat_F38 (by kernel_rfl) (by kernel_rfl) (by kernel_rfl) (loopsOK_of (ls := []) (by kernel_rfl) trivial) (fun v => by kernel_rfl)

theorem F38_eq (a b : Int) : F38 (a, b) = some (if a < b then -1 else if b < a then 1 else 0) := by
  have h : ∀ x, F45 x = some false := fun x => by simp [F45, F45_t, T.run]
  simp only [F38, F38_t, T.run, h, Option.bind_some]
  by_cases h1 : a < b
  · simp [h1]
  · by_cases h2 : b < a <;> simp [h1, h2]


def F66_sh : FSh := ⟨[(.one (.sl (.int .i64) false false))], []⟩

def F66_L3_sh : LSh := ⟨(fun ex => match ex with | .norm => [(3, none), (6, none), (7, none), (8, none)] | .exit i => if i = 0 then [(3, none)] else [] | .ret => [(2, none)]), [(3, (.one (.si .i64))), (6, (.one (.sl (.int .i64) false false))), (7, (.one (.si .i64))), (8, (.one (.si .i64)))], [], [⟨.ret, [(2, (.one (.si .i64)))], []⟩, ⟨(.exit 0), [(3, (.one (.si .i64)))], []⟩], [], []⟩
noncomputable def F66_L3_step : (Int × List (Int) × Int × Int) → T ((Int × List (Int) × Int × Int) ⊕ (Int ⊕ Int)) := fun (zero, t6, t7, t8) =>
 (.test (decide (t8 < t7))
 (.test (decide ((0 ≤ t8) ∧ (t8 < ((List.length t6) : Int))))
 (.sub (t6[(Int.toNat t8)]?) fun z0 =>
 (.test (z0 != zero)
 (.ret (Sum.inr (Sum.inl z0)))
 (.ret (Sum.inl (zero, (t6, (t7, (w64 (t8 + 1)))))))))
 .fail)
 (.ret (Sum.inr (Sum.inr zero))))
noncomputable def F66_L3 (v : (Int × List (Int) × Int × Int)) : Option (Int ⊕ Int) := loopO (fun v => (F66_L3_step v).run) v

def F66_fo : List FO := [⟨[(.one (.si .i64))], []⟩]
noncomputable def F66_t : List (Int) → T Int := fun vals =>
 (.sub (F66_L3 ((0 : Int), (vals, (((List.length vals) : Int), (0 : Int))))) fun z0 =>
 (.test (Sum.isLeft z0)
 (.sub (Sum.getLeft? z0) fun z1 =>
 (.ret z1))
 (.sub (Sum.getRight? z0) fun z2 =>
 (.ret z2))))
noncomputable def F66 (v : List (Int)) : Option Int := (F66_t v).run
noncomputable def F66_E : TEnv := E0
theorem F66_Eok : (F66_E).OK := E0ok
noncomputable def F66_told : Nat → Option SealT := fun id => if id = 3 then some (LSh.told F66_L3_sh 0 (F66_L3_step)) else none
theorem F66_L3_ok : ToldOK Tryz.prog 0 (loopAt (bodyOf fn_F66) [0]) (LSh.told F66_L3_sh 0 (F66_L3_step)) :=
  loop_ok (E := F66_E) (F66_Eok) (told := F66_told) (l := F66_L3_sh) (step := F66_L3_step) (loopsOK_of (ls := []) (by kernel_rfl) trivial) (by kernel_rfl) (fun v => by kernel_rfl)
theorem F66_ok : FOK Tryz.prog n_F66 F66_sh F66_fo F66 :=
  fn_ok (E := F66_E) (F66_Eok) (told := F66_told) (fl := []) (c := bodyOf fn_F66) (s := F66_sh) (l := F66_fo) (tree := F66_t) fnat_F66 (by kernel_rfl) (by kernel_rfl) (by kernel_rfl) (loopsOK_of (ls := [loopAt (bodyOf fn_F66) [0]]) (by kernel_rfl) ⟨.inr ⟨_, by kernel_rfl, F66_L3_ok⟩, trivial⟩) (fun v => by kernel_rfl)

theorem F66_two (a b : Int) : F66 [a, b] = some (if a = 0 then b else a) := by
  simp only [F66, F66_t, T.run, F66_L3]
  rw [loopO_step]
  simp only [F66_L3_step, T.run]
  by_cases ha : a = 0
  · subst ha
    simp [w64_id (z := 1)]
    rw [loopO_step]
    simp only [F66_L3_step, T.run]
    by_cases hb : b = 0
    · subst hb
      simp [w64_id (z := 2)]
      rw [loopO_step]
      simp [F66_L3_step, T.run]
    · simp [hb]
  · simp [ha]



abbrev Dg := Int × Int
def nbB (n i : Nat) : Nat := (i + n - 1) % n
def nbC (n i : Nat) : Nat := (i + 1) % n
def decAt (l : List Int) (p : Nat) : List Int := l.set p (w64 (l.getD p 0 - 1))
def cutL (l : List Int) (i : Nat) : List Int := (decAt (decAt l (nbB l.length i)) (nbC l.length i)).eraseIdx i
def cutD (names : List Int) (i : Nat) : Dg :=
  (min (names.getD (nbB names.length i) 0) (names.getD (nbC names.length i) 0), max (names.getD (nbB names.length i) 0) (names.getD (nbC names.length i) 0))
def ear (l : List Int) : Option Nat := l.findIdx? (fun x => (1 : Int) == x)
def okC (l : List Int) (i : Nat) : Bool := decide (1 ≤ w64 (l.getD (nbB l.length i) 0 - 1) ∧ 1 ≤ w64 (l.getD (nbC l.length i) 0 - 1))
def tri : Nat → List Int → List Int → Option (List Dg)
  | 0, l, _ => if l = [1, 1, 1] then some [] else none
  | k + 1, l, names => match ear l with
    | none => none
    | some i => (tri k (cutL l i) (names.eraseIdx i)).map (cutD names i :: ·)
def triS : Nat → List Int → List Int → Option (List Dg)
  | 0, l, _ => if l = [1, 1, 1] then some [] else none
  | k + 1, l, names => match ear l with
    | none => none
    | some i => if okC l i then (triS k (cutL l i) (names.eraseIdx i)).map (cutD names i :: ·) else none
def cntD (d : Dg) (m : Int) : Int := (if d.1 = m then 1 else 0) + (if d.2 = m then 1 else 0)
def cnt (ds : List Dg) (m : Int) : Int := ds.foldr (fun d s => cntD d m + s) 0
def crossD (d e : Dg) : Bool := (decide (d.1 < e.1) && decide (e.1 < d.2) && decide (d.2 < e.2)) || (decide (e.1 < d.1) && decide (d.1 < e.2) && decide (e.2 < d.2))
def Ends (names : List Int) (d : Dg) : Prop := d.1 ∈ names ∧ d.2 ∈ names ∧ d.1 < d.2 ∧ (∃ m ∈ names, d.1 < m ∧ m < d.2) ∧ (∃ m ∈ names, m < d.1 ∨ d.2 < m)
def Apart (d e : Dg) : Prop := d ≠ e ∧ crossD d e = false
def Good (names : List Int) (ds : List Dg) : Prop := (∀ d ∈ ds, Ends names d) ∧ ds.Pairwise Apart
theorem nb_facts {n i : Nat} (hn : 3 ≤ n) (hi : i < n) : nbB n i < n ∧ nbC n i < n ∧ nbB n i ≠ i ∧ nbC n i ≠ i ∧ nbB n i ≠ nbC n i ∧
    ((i = 0 ∧ nbB n i = n - 1 ∧ nbC n i = 1) ∨ (i = n - 1 ∧ nbB n i = n - 2 ∧ nbC n i = 0) ∨ (0 < i ∧ i < n - 1 ∧ nbB n i = i - 1 ∧ nbC n i = i + 1)) := by
  unfold nbB nbC
  by_cases h0 : i = 0
  · subst h0
    rw [Nat.mod_eq_of_lt (by omega), Nat.mod_eq_of_lt (by omega)]
    omega
  · rw [show i + n - 1 = (i - 1) + n by omega, Nat.add_mod_right, Nat.mod_eq_of_lt (by omega)]
    by_cases h1 : i = n - 1
    · subst h1
      rw [show n - 1 + 1 = n by omega, Nat.mod_self]
      omega
    · rw [Nat.mod_eq_of_lt (by omega)]
      omega
theorem ear_lt {l : List Int} {i : Nat} (h : ear l = some i) : i < l.length ∧ l[i]? = some 1 := by
  obtain ⟨h1, h2, _⟩ := List.findIdx?_eq_some_iff_getElem.1 h
  refine ⟨h1, ?_⟩
  rw [List.getElem?_eq_getElem h1]
  simp at h2
  rw [← h2]
theorem decAt_length (l : List Int) (p : Nat) : (decAt l p).length = l.length := by simp [decAt]
theorem cutL_length {l : List Int} {i : Nat} (h : i < l.length) : (cutL l i).length = l.length - 1 := by
  unfold cutL
  rw [List.length_eraseIdx, decAt_length, decAt_length, if_pos h]
def cutV (l : List Int) (i p : Nat) : Int := if p = nbB l.length i ∨ p = nbC l.length i then w64 (l.getD p 0 - 1) else l.getD p 0
theorem dec2_get {l : List Int} {i p : Nat} (hn : 3 ≤ l.length) (hi : i < l.length) (hp : p < l.length) :
    (decAt (decAt l (nbB l.length i)) (nbC l.length i))[p]? = some (cutV l i p) := by
  obtain ⟨h1, h2, h3, h4, h5, _⟩ := nb_facts hn hi
  unfold decAt cutV
  by_cases e1 : nbC l.length i = p
  · subst e1
    rw [List.getElem?_set_self (by simpa using h2), if_pos (.inr rfl)]
    simp only [List.getD_eq_getElem?_getD, List.getElem?_set_ne h5]
  · rw [List.getElem?_set_ne e1]
    by_cases e2 : nbB l.length i = p
    · subst e2
      rw [List.getElem?_set_self h1, if_pos (.inl rfl)]
    · rw [List.getElem?_set_ne e2, if_neg (by omega), List.getD_eq_getElem?_getD, List.getElem?_eq_getElem hp]
      rfl
theorem cutL_get {l : List Int} {i p : Nat} (hn : 3 ≤ l.length) (hi : i < l.length) (hp : p < l.length) (hpi : p ≠ i) :
    (cutL l i)[if p < i then p else p - 1]? = some (cutV l i p) := by
  unfold cutL
  rw [List.getElem?_eraseIdx]
  by_cases h : p < i
  · simp only [h, if_true]
    exact dec2_get hn hi hp
  · simp only [h, if_false]
    rw [if_neg (by omega), show p - 1 + 1 = p by omega]
    exact dec2_get hn hi hp
theorem erase_get {X : Type} {names : List X} {i p : Nat} (hpi : p ≠ i) : (names.eraseIdx i)[if p < i then p else p - 1]? = names[p]? := by
  rw [List.getElem?_eraseIdx]
  by_cases h : p < i
  · simp [h]
  · simp only [h, if_false]
    rw [if_neg (by omega), show p - 1 + 1 = p by omega]
theorem erase_mem {X : Type} {names : List X} {i : Nat} {m : X} (h : m ∈ names.eraseIdx i) : ∃ p, p ≠ i ∧ names[p]? = some m := by
  obtain ⟨j, hj1, hj2⟩ := List.mem_eraseIdx_iff_getElem?.1 h
  exact ⟨j, hj1, hj2⟩
theorem sorted_get {names : List Int} (hs : names.Pairwise (· < ·)) {p q : Nat} (h : p < q) {a b : Int} (ha : names[p]? = some a) (hb : names[q]? = some b) : a < b := by
  obtain ⟨h1, e1⟩ := List.getElem?_eq_some_iff.1 ha
  obtain ⟨h2, e2⟩ := List.getElem?_eq_some_iff.1 hb
  rw [← e1, ← e2]
  exact List.pairwise_iff_getElem.1 hs p q h1 h2 h
theorem sorted_inj {names : List Int} (hs : names.Pairwise (· < ·)) {p q : Nat} {a : Int} (ha : names[p]? = some a) (hb : names[q]? = some a) : p = q := by
  rcases Nat.lt_trichotomy p q with h | h | h
  · have := sorted_get hs h ha hb; omega
  · exact h
  · have := sorted_get hs h hb ha; omega
theorem getD_some {X : Type} {l : List X} {p : Nat} {a d : X} (h : l[p]? = some a) : l.getD p d = a := by rw [List.getD_eq_getElem?_getD, h]; rfl
theorem cutD_facts {names : List Int} (hs : names.Pairwise (· < ·)) {i : Nat} (hn : 4 ≤ names.length) (hi : i < names.length) :
    Ends names (cutD names i) ∧ (cutD names i).1 ∈ names.eraseIdx i ∧ (cutD names i).2 ∈ names.eraseIdx i ∧
    ((∀ m ∈ names.eraseIdx i, ¬ ((cutD names i).1 < m ∧ m < (cutD names i).2)) ∨ (∀ m ∈ names.eraseIdx i, ¬ (m < (cutD names i).1 ∨ (cutD names i).2 < m))) ∧
    ∀ p m, names[p]? = some m → cntD (cutD names i) m = if p = nbB names.length i ∨ p = nbC names.length i then 1 else 0 := by
  obtain ⟨h1, h2, h3, h4, h5, h6⟩ := nb_facts (by omega : 3 ≤ names.length) hi
  have gb := List.getElem?_eq_getElem h1
  have gc := List.getElem?_eq_getElem h2
  have gi := List.getElem?_eq_getElem hi
  have hmem : ∀ p, p ≠ i → ∀ m, names[p]? = some m → m ∈ names.eraseIdx i := fun p hp m hm => List.mem_eraseIdx_iff_getElem?.2 ⟨p, hp, hm⟩
  have mb := hmem _ h3 _ gb
  have mc := hmem _ h4 _ gc
  have hD : cutD names i = (min names[nbB names.length i] names[nbC names.length i], max names[nbB names.length i] names[nbC names.length i]) := by
    unfold cutD; rw [getD_some gb, getD_some gc]
  have hE : ∀ {m}, m ∈ names.eraseIdx i → ∃ p, p ≠ i ∧ names[p]? = some m := fun h => erase_mem h
  have g0 := List.getElem?_eq_getElem (show 0 < names.length by omega)
  have g1 := List.getElem?_eq_getElem (show 1 < names.length by omega)
  have g2 := List.getElem?_eq_getElem (show 2 < names.length by omega)
  have gl := List.getElem?_eq_getElem (show names.length - 1 < names.length by omega)
  have key : ∀ a b : Int, (names[nbB names.length i] = a ∧ names[nbC names.length i] = b ∨ names[nbB names.length i] = b ∧ names[nbC names.length i] = a) → a < b → (cutD names i) = (a, b) := by
    intro a b h hab
    rw [hD]
    rcases h with ⟨e1, e2⟩ | ⟨e1, e2⟩ <;> rw [e1, e2] <;> simp only [Prod.mk.injEq] <;> constructor <;> omega
  have hcnt : ∀ p m, names[p]? = some m → cntD (cutD names i) m = if p = nbB names.length i ∨ p = nbC names.length i then 1 else 0 := by
    intro p m hm
    have e1 : p = nbB names.length i ↔ names[nbB names.length i] = m := ⟨fun e => by subst e; rw [gb] at hm; exact Option.some.inj hm, fun e => sorted_inj hs hm (by rw [gb, e])⟩
    have e2 : p = nbC names.length i ↔ names[nbC names.length i] = m := ⟨fun e => by subst e; rw [gc] at hm; exact Option.some.inj hm, fun e => sorted_inj hs hm (by rw [gc, e])⟩
    rw [hD]
    unfold cntD
    simp only []
    by_cases c1 : p = nbB names.length i
    · have c2 : ¬ p = nbC names.length i := by omega
      have d1 := e1.1 c1
      have d2 : ¬ names[nbC names.length i] = m := fun e => c2 (e2.2 e)
      simp only [c1, true_or, if_true]
      split <;> split <;> omega
    · have d1 : ¬ names[nbB names.length i] = m := fun e => c1 (e1.2 e)
      by_cases c2 : p = nbC names.length i
      · have d2 := e2.1 c2
        simp only [c2, or_true, if_true]
        split <;> split <;> omega
      · have d2 : ¬ names[nbC names.length i] = m := fun e => c2 (e2.2 e)
        rw [if_neg (by omega : ¬ (p = nbB names.length i ∨ p = nbC names.length i))]
        split <;> split <;> omega
  rcases h6 with ⟨hi0, hb, hc⟩ | ⟨hi0, hb, hc⟩ | ⟨hi0, hi1, hb, hc⟩
  · have lt1 := sorted_get hs (show nbC names.length i < nbB names.length i by omega) gc gb
    have e := key _ _ (.inr ⟨rfl, rfl⟩) lt1
    rw [e]
    refine ⟨⟨List.mem_of_getElem? gc, List.mem_of_getElem? gb, lt1, ⟨_, List.mem_of_getElem? g2, sorted_get hs (by omega) gc g2, sorted_get hs (by omega) g2 gb⟩, ⟨_, List.mem_of_getElem? g0, .inl (sorted_get hs (by omega) g0 gc)⟩⟩, mc, mb, .inr ?_, ?_⟩
    · intro m hm
      obtain ⟨p, hp, hpm⟩ := hE hm
      have := getElem?_lt hpm
      rintro (h | h)
      · have : ¬ nbC names.length i ≤ p := by
          intro hle
          rcases Nat.lt_or_eq_of_le hle with h' | h'
          · have := sorted_get hs h' gc hpm; simp only [] at h; omega
          · subst h'; rw [gc] at hpm; have := Option.some.inj hpm; simp only [] at h; omega
        omega
      · have : ¬ p ≤ nbB names.length i := by
          intro hle
          rcases Nat.lt_or_eq_of_le hle with h' | h'
          · have := sorted_get hs h' hpm gb; simp only [] at h; omega
          · subst h'; rw [gb] at hpm; have := Option.some.inj hpm; simp only [] at h; omega
        omega
    · rw [← e]; exact hcnt
  · have lt1 := sorted_get hs (show nbC names.length i < nbB names.length i by omega) gc gb
    have e := key _ _ (.inr ⟨rfl, rfl⟩) lt1
    rw [e]
    refine ⟨⟨List.mem_of_getElem? gc, List.mem_of_getElem? gb, lt1, ⟨_, List.mem_of_getElem? g1, sorted_get hs (by omega) gc g1, sorted_get hs (by omega) g1 gb⟩, ⟨_, List.mem_of_getElem? gl, .inr (sorted_get hs (by omega) gb gl)⟩⟩, mc, mb, .inr ?_, ?_⟩
    · intro m hm
      obtain ⟨p, hp, hpm⟩ := hE hm
      have := getElem?_lt hpm
      rintro (h | h)
      · have : ¬ nbC names.length i ≤ p := by
          intro hle
          rcases Nat.lt_or_eq_of_le hle with h' | h'
          · have := sorted_get hs h' gc hpm; simp only [] at h; omega
          · subst h'; rw [gc] at hpm; have := Option.some.inj hpm; simp only [] at h; omega
        omega
      · have : ¬ p ≤ nbB names.length i := by
          intro hle
          rcases Nat.lt_or_eq_of_le hle with h' | h'
          · have := sorted_get hs h' hpm gb; simp only [] at h; omega
          · subst h'; rw [gb] at hpm; have := Option.some.inj hpm; simp only [] at h; omega
        omega
    · rw [← e]; exact hcnt
  · have lt1 := sorted_get hs (show nbB names.length i < nbC names.length i by omega) gb gc
    have e := key _ _ (.inl ⟨rfl, rfl⟩) lt1
    rw [e]
    refine ⟨⟨List.mem_of_getElem? gb, List.mem_of_getElem? gc, lt1, ⟨_, List.mem_of_getElem? gi, sorted_get hs (by omega) gb gi, sorted_get hs (by omega) gi gc⟩, ?_⟩, mb, mc, .inl ?_, ?_⟩
    · by_cases hz : 0 < nbB names.length i
      · exact ⟨_, List.mem_of_getElem? g0, .inl (sorted_get hs hz g0 gb)⟩
      · exact ⟨_, List.mem_of_getElem? gl, .inr (sorted_get hs (by omega) gc gl)⟩
    · intro m hm
      obtain ⟨p, hp, hpm⟩ := hE hm
      have := getElem?_lt hpm
      rintro ⟨ha, hb'⟩
      have c1 : nbB names.length i < p := by
        rcases Nat.lt_trichotomy (nbB names.length i) p with h' | h' | h'
        · exact h'
        · subst h'; rw [gb] at hpm; have := Option.some.inj hpm; simp only [] at ha; omega
        · have := sorted_get hs h' hpm gb; simp only [] at ha; omega
      have c2 : p < nbC names.length i := by
        rcases Nat.lt_trichotomy p (nbC names.length i) with h' | h' | h'
        · exact h'
        · subst h'; rw [gc] at hpm; have := Option.some.inj hpm; simp only [] at hb'; omega
        · have := sorted_get hs h' gc hpm; simp only [] at hb'; omega
      omega
    · rw [← e]; exact hcnt
theorem Ends.mono {names names' : List Int} (h : ∀ m ∈ names', m ∈ names) {d : Dg} (hd : Ends names' d) : Ends names d := by
  obtain ⟨a, b, c, ⟨m, hm, hm'⟩, ⟨q, hq, hq'⟩⟩ := hd
  exact ⟨h _ a, h _ b, c, ⟨m, h _ hm, hm'⟩, ⟨q, h _ hq, hq'⟩⟩
theorem tri_good : ∀ (k : Nat) (l names : List Int) (ds : List Dg), names.Pairwise (· < ·) → l.length = k + 3 → names.length = k + 3 → tri k l names = some ds → ds.length = k ∧ Good names ds
  | 0, l, names, ds, hs, hl, hn, h => by
    unfold tri at h
    split at h
    · cases h; exact ⟨rfl, by simp, by simp⟩
    · cases h
  | k + 1, l, names, ds, hs, hl, hn, h => by
    unfold tri at h
    cases he : ear l with
    | none => rw [he] at h; cases h
    | some i =>
      rw [he] at h
      simp only [] at h
      obtain ⟨hi, _⟩ := ear_lt he
      obtain ⟨ds', h1, h2⟩ := Option.map_eq_some_iff.1 h
      subst h2
      have hE : (names.eraseIdx i).length = k + 3 := by rw [List.length_eraseIdx, if_pos (by omega)]; omega
      have hsub : ∀ m ∈ names.eraseIdx i, m ∈ names := fun m hm => List.mem_of_mem_eraseIdx hm
      obtain ⟨g1, g2, g3⟩ := tri_good k (cutL l i) (names.eraseIdx i) ds' (hs.sublist (List.eraseIdx_sublist ..)) (by rw [cutL_length hi]; omega) hE h1
      obtain ⟨f1, f2, f3, f4, f5⟩ := cutD_facts hs (by omega) (show i < names.length by omega)
      refine ⟨by simp [g1], fun d hd => ?_, ?_⟩
      · rcases List.mem_cons.1 hd with rfl | hd
        · exact f1
        · exact (g2 d hd).mono hsub
      · refine List.pairwise_cons.2 ⟨fun e he' => ?_, g3⟩
        obtain ⟨q1, q2, q3, ⟨m, q4, q5⟩, ⟨m', q6, q7⟩⟩ := g2 e he'
        generalize cutD names i = d at *
        constructor
        · rintro rfl
          rcases f4 with f4 | f4
          · exact f4 m q4 q5
          · exact f4 m' q6 q7
        · unfold crossD
          rcases f4 with f4 | f4
          · have a1 := f4 _ q1
            have a2 := f4 _ q2
            simp
            constructor <;> intro h1 h2 <;> omega
          · have a1 := f4 _ q1
            have a2 := f4 _ q2
            simp
            constructor <;> intro h1 h2 <;> omega
theorem cnt_nn (ds : List Dg) (m : Int) : 0 ≤ cnt ds m ∧ cnt ds m ≤ 2 * ds.length := by
  induction ds with
  | nil => simp [cnt]
  | cons d t ih =>
    have : cnt (d :: t) m = cntD d m + cnt t m := rfl
    rw [this, List.length_cons]
    unfold cntD
    split <;> split <;> omega
theorem cnt_zero (ds : List Dg) (m : Int) (h : ∀ d ∈ ds, d.1 ≠ m ∧ d.2 ≠ m) : cnt ds m = 0 := by
  induction ds with
  | nil => simp [cnt]
  | cons d t ih =>
    have e : cnt (d :: t) m = cntD d m + cnt t m := rfl
    have := h d (by simp)
    rw [e, ih (fun d hd => h d (by simp [hd]))]
    unfold cntD
    rw [if_neg this.1, if_neg this.2]
    rfl
def Cnts (l names : List Int) (ds : List Dg) : Prop := ∀ (p : Nat) (v m : Int), l[p]? = some v → names[p]? = some m → v = 1 + cnt ds m
theorem good_ne {names : List Int} {ds : List Dg} (g : Good names ds) {m : Int} (h : m ∉ names) : cnt ds m = 0 :=
  cnt_zero ds m fun d hd => ⟨fun e => h (e ▸ (g.1 d hd).1), fun e => h (e ▸ (g.1 d hd).2.1)⟩
theorem cut_cnts {k : Nat} {l names : List Int} {i : Nat} {ds : List Dg} (hs : names.Pairwise (· < ·)) (hl : l.length = k + 4) (hn : names.length = k + 4) (hi : ear l = some i) (g : Good (names.eraseIdx i) ds)
    (hw : ∀ p, p < l.length → w64 (l.getD p 0 - 1) = l.getD p 0 - 1) : Cnts (cutL l i) (names.eraseIdx i) ds ↔ Cnts l names (cutD names i :: ds) := by
  obtain ⟨hil, hi1⟩ := ear_lt hi
  obtain ⟨h1, h2, h3, h4, h5, h6⟩ := nb_facts (by omega : 3 ≤ l.length) hil
  obtain ⟨f1, f2, f3, f4, f5⟩ := cutD_facts hs (by omega) (show i < names.length by omega)
  have hcv : ∀ p m, p < l.length → names[p]? = some m → cutV l i p = l.getD p 0 - cntD (cutD names i) m := by
    intro p m hp hm
    rw [f5 p m hm, hn, ← hl]
    unfold cutV
    rw [hw p hp]
    split <;> simp
  constructor
  · intro h p v m hv hm
    have e : cnt (cutD names i :: ds) m = cntD (cutD names i) m + cnt ds m := rfl
    rw [e]
    have hp := getElem?_lt hv
    by_cases hpi : p = i
    · subst hpi
      rw [hi1] at hv
      cases hv
      have := f5 p m hm
      rw [hn, ← hl, if_neg (by omega)] at this
      rw [this, good_ne g]
      · rfl
      · intro hmem
        obtain ⟨q, hq, hqm⟩ := erase_mem hmem
        exact hq (sorted_inj hs hqm hm)
    · have := h (if p < i then p else p - 1) (cutV l i p) m (cutL_get (by omega) hil hp hpi) (by rw [erase_get hpi]; exact hm)
      rw [hcv p m hp hm, getD_some hv] at this
      omega
  · intro h p' v m hv hm
    have hp' := getElem?_lt hv
    rw [cutL_length hil] at hp'
    obtain ⟨p, hpi, hpp, hp⟩ : ∃ p, p ≠ i ∧ (if p < i then p else p - 1) = p' ∧ p < l.length := by
      by_cases hh : p' < i
      · exact ⟨p', by omega, by rw [if_pos hh], by omega⟩
      · exact ⟨p' + 1, by omega, by rw [if_neg (by omega)]; omega, by omega⟩
    rw [← hpp] at hv hm
    rw [cutL_get (by omega) hil hp hpi] at hv
    rw [erase_get hpi] at hm
    cases hv
    rw [hcv p m hp hm]
    have := h p (l.getD p 0) m (by rw [List.getElem?_eq_getElem hp, List.getD_eq_getElem?_getD, List.getElem?_eq_getElem hp]; rfl) hm
    have e : cnt (cutD names i :: ds) m = cntD (cutD names i) m + cnt ds m := rfl
    omega
theorem triS_tri : ∀ (k : Nat) (l names : List Int) (ds : List Dg), names.Pairwise (· < ·) → l.length = k + 3 → names.length = k + 3 → (∀ v ∈ l, 1 ≤ v ∧ v ≤ 4611686018427387904) → triS k l names = some ds → tri k l names = some ds ∧ Cnts l names ds
  | 0, l, names, ds, hs, hl, hn, hb, h => by
    unfold triS at h
    refine ⟨by unfold tri; exact h, ?_⟩
    split at h
    · rename_i e
      cases h
      intro p v m hv hm
      have := List.mem_of_getElem? hv
      rw [e] at this
      simp at this
      rw [this]; rfl
    · cases h
  | k + 1, l, names, ds, hs, hl, hn, hb, h => by
    unfold triS at h
    cases he : ear l with
    | none => rw [he] at h; cases h
    | some i =>
      rw [he] at h
      simp only [] at h
      split at h
      · rename_i hok
        obtain ⟨hi, _⟩ := ear_lt he
        obtain ⟨n1, n2, n3, n4, n5, n6⟩ := nb_facts (by omega : 3 ≤ l.length) hi
        obtain ⟨ds', h1, h2⟩ := Option.map_eq_some_iff.1 h
        subst h2
        have hE : (names.eraseIdx i).length = k + 3 := by rw [List.length_eraseIdx, if_pos (by omega)]; omega
        have hgd : ∀ p, p < l.length → 1 ≤ l.getD p 0 ∧ l.getD p 0 ≤ 4611686018427387904 := by
          intro p hp
          rw [List.getD_eq_getElem?_getD, List.getElem?_eq_getElem hp]
          exact hb _ (List.getElem_mem hp)
        have hw : ∀ p, p < l.length → w64 (l.getD p 0 - 1) = l.getD p 0 - 1 := by
          intro p hp
          have := hgd p hp
          exact w64_id (by omega) (by omega)
        have hb' : ∀ v ∈ cutL l i, 1 ≤ v ∧ v ≤ 4611686018427387904 := by
          intro v hv
          obtain ⟨p', hp'⟩ := List.mem_iff_getElem?.1 hv
          have hlt := getElem?_lt hp'
          rw [cutL_length hi] at hlt
          obtain ⟨p, hpi, hpp, hp⟩ : ∃ p, p ≠ i ∧ (if p < i then p else p - 1) = p' ∧ p < l.length := by
            by_cases hh : p' < i
            · exact ⟨p', by omega, by rw [if_pos hh], by omega⟩
            · exact ⟨p' + 1, by omega, by rw [if_neg (by omega)]; omega, by omega⟩
          rw [← hpp, cutL_get (by omega) hi hp hpi] at hp'
          cases hp'
          unfold okC at hok
          have hok := of_decide_eq_true hok
          have := hgd p hp
          unfold cutV
          split
          · rename_i hh
            rcases hh with rfl | rfl
            · refine ⟨hok.1, ?_⟩
              rw [hw _ hp]; omega
            · refine ⟨hok.2, ?_⟩
              rw [hw _ hp]; omega
          · exact this
        obtain ⟨g1, g2⟩ := triS_tri k (cutL l i) (names.eraseIdx i) ds' (hs.sublist (List.eraseIdx_sublist ..)) (by rw [cutL_length hi]; omega) hE hb' h1
        have g := (tri_good k _ _ _ (hs.sublist (List.eraseIdx_sublist ..)) (by rw [cutL_length hi]; omega) hE g1).2
        refine ⟨?_, (cut_cnts hs hl hn he g hw).1 g2⟩
        unfold tri
        rw [he]
        simp only []
        rw [g1]
        rfl
      · cases h
theorem tri_triS : ∀ (k : Nat) (l names : List Int) (ds : List Dg), names.Pairwise (· < ·) → l.length = k + 3 → names.length = k + 3 → k < 1000000 → tri k l names = some ds → Cnts l names ds → triS k l names = some ds
  | 0, l, names, ds, hs, hl, hn, hk, h, hc => by
    unfold tri at h
    unfold triS
    exact h
  | k + 1, l, names, ds, hs, hl, hn, hk, h, hc => by
    have hlen := (tri_good _ _ _ _ hs hl hn h).1
    unfold tri at h
    unfold triS
    cases he : ear l with
    | none => rw [he] at h; cases h
    | some i =>
      rw [he] at h
      simp only [] at h ⊢
      obtain ⟨hi, _⟩ := ear_lt he
      obtain ⟨n1, n2, n3, n4, n5, n6⟩ := nb_facts (by omega : 3 ≤ l.length) hi
      obtain ⟨ds', h1, h2⟩ := Option.map_eq_some_iff.1 h
      subst h2
      have hE : (names.eraseIdx i).length = k + 3 := by rw [List.length_eraseIdx, if_pos (by omega)]; omega
      have g := (tri_good k _ _ _ (hs.sublist (List.eraseIdx_sublist ..)) (by rw [cutL_length hi]; omega) hE h1).2
      obtain ⟨f1, f2, f3, f4, f5⟩ := cutD_facts hs (by omega) (show i < names.length by omega)
      have hgd : ∀ p (hp : p < l.length), l.getD p 0 = 1 + (cntD (cutD names i) (names[p]'(by omega)) + cnt ds' (names[p]'(by omega))) := by
        intro p hp
        rw [List.getD_eq_getElem?_getD, List.getElem?_eq_getElem hp]
        exact hc p _ _ (List.getElem?_eq_getElem hp) (List.getElem?_eq_getElem (by omega))
      have hw : ∀ p, p < l.length → w64 (l.getD p 0 - 1) = l.getD p 0 - 1 := by
        intro p hp
        have e := hgd p hp
        have c1 := cnt_nn ds' (names[p]'(by omega))
        have c2 : cntD (cutD names i) (names[p]'(by omega)) ≤ 2 ∧ 0 ≤ cntD (cutD names i) (names[p]'(by omega)) := by unfold cntD; split <;> split <;> omega
        rw [List.length_cons] at hlen
        rw [w64_id (by omega) (by omega)]
      have hok : okC l i = true := by
        unfold okC
        refine decide_eq_true ⟨?_, ?_⟩
        · rw [hw _ n1, hgd _ n1, f5 _ _ (List.getElem?_eq_getElem (by omega)), if_pos (.inl (by rw [hn, hl]))]
          have := cnt_nn ds' (names[nbB l.length i]'(by omega))
          omega
        · rw [hw _ n2, hgd _ n2, f5 _ _ (List.getElem?_eq_getElem (by omega)), if_pos (.inr (by rw [hn, hl]))]
          have := cnt_nn ds' (names[nbC l.length i]'(by omega))
          omega
      rw [if_pos hok, tri_triS k _ _ _ (hs.sublist (List.eraseIdx_sublist ..)) (by rw [cutL_length hi]; omega) hE (by omega) h1 ((cut_cnts hs hl hn he g hw).2 hc)]
      rfl



def ltD (d e : Dg) : Bool := decide (d.1 < e.1 ∨ d.1 = e.1 ∧ d.2 < e.2)
def leD (d e : Dg) : Bool := !ltD e d
def cmpD (d e : Dg) : Int := if ltD d e then -1 else if ltD e d then 1 else 0
theorem leD_iff {d e : Dg} : leD d e = true ↔ d.1 < e.1 ∨ d.1 = e.1 ∧ d.2 ≤ e.2 := by
  unfold leD ltD; simp; omega
theorem ltD_iff {d e : Dg} : ltD d e = true ↔ d.1 < e.1 ∨ d.1 = e.1 ∧ d.2 < e.2 := by
  unfold ltD; simp
theorem leD_trans {a b c : Dg} (h1 : leD a b = true) (h2 : leD b c = true) : leD a c = true := by
  rw [leD_iff] at *; omega
theorem leD_anti {a b : Dg} (h1 : leD a b = true) (h2 : leD b a = true) : a = b := by
  rw [leD_iff] at *
  exact Prod.ext (by omega) (by omega)
theorem leD_of_lt {a b : Dg} (h : ltD a b = true) : leD a b = true := by
  rw [leD_iff]; rw [ltD_iff] at h; omega
theorem leD_of_not {a b : Dg} (h : ltD a b = false) : leD b a = true := by unfold leD; rw [h]; rfl
theorem ltD_of {a b : Dg} (h : leD a b = true) (hne : a ≠ b) : ltD a b = true := by
  rw [leD_iff] at h; rw [ltD_iff]
  rcases h with h | ⟨h1, h2⟩
  · exact .inl h
  · refine .inr ⟨h1, ?_⟩
    rcases Int.lt_or_lt_of_ne (fun e => hne (Prod.ext h1 e)) with h | h <;> omega
def SortedD (l : List Dg) : Prop := l.Pairwise fun a b => leD a b = true
theorem sorted_unique {l m : List Dg} (h1 : SortedD l) (h2 : SortedD m) (hp : l.Perm m) : l = m :=
  List.Perm.eq_of_pairwise (fun a b _ _ h1 h2 => leD_anti h1 h2) h1 h2 hp
def insD (d : Dg) (l : List Dg) : List Dg := l.takeWhile (ltD · d) ++ d :: l.dropWhile (ltD · d)
theorem insD_perm (d : Dg) (l : List Dg) : (insD d l).Perm (d :: l) := by
  unfold insD
  have h := List.perm_middle (a := d) (l₁ := l.takeWhile (ltD · d)) (l₂ := l.dropWhile (ltD · d))
  rwa [List.takeWhile_append_dropWhile] at h
theorem insD_sorted (d : Dg) : ∀ {l : List Dg}, SortedD l → SortedD (insD d l)
  | [], _ => by simp [insD, SortedD]
  | x :: t, h => by
    obtain ⟨h1, h2⟩ := List.pairwise_cons.1 h
    unfold insD
    cases hx : ltD x d with
    | true =>
      rw [List.takeWhile_cons, List.dropWhile_cons]
      simp only [hx, if_true, List.cons_append]
      refine List.pairwise_cons.2 ⟨fun y hy => ?_, insD_sorted d h2⟩
      have : y ∈ d :: t := (insD_perm d t).mem_iff.1 hy
      rcases List.mem_cons.1 this with rfl | hy
      · exact leD_of_lt hx
      · exact h1 y hy
    | false =>
      rw [List.takeWhile_cons, List.dropWhile_cons]
      simp only [hx, Bool.false_eq_true, if_false, List.nil_append]
      refine List.pairwise_cons.2 ⟨fun y hy => ?_, h⟩
      rcases List.mem_cons.1 hy with rfl | hy
      · exact leD_of_not hx
      · exact leD_trans (leD_of_not hx) (h1 y hy)
def sortD (l : List Dg) : List Dg := l.foldl (fun out d => insD d out) []
theorem sortD_go : ∀ (l out : List Dg), SortedD out → SortedD (l.foldl (fun out d => insD d out) out) ∧ (l.foldl (fun out d => insD d out) out).Perm (out ++ l)
  | [], out, h => ⟨h, by simp⟩
  | d :: l, out, h => by
    obtain ⟨h1, h2⟩ := sortD_go l (insD d out) (insD_sorted d h)
    refine ⟨h1, h2.trans ?_⟩
    exact ((insD_perm d out).append_right l).trans (by simpa using (List.perm_middle (a := d) (l₁ := out) (l₂ := l)).symm)
theorem sortD_sorted (l : List Dg) : SortedD (sortD l) := (sortD_go l [] (by simp [SortedD])).1
theorem sortD_perm (l : List Dg) : (sortD l).Perm l := by have h := (sortD_go l [] (by simp [SortedD])).2; rwa [List.nil_append] at h
theorem sortD_length (l : List Dg) : (sortD l).length = l.length := (sortD_perm l).length_eq
/-! insertion by swaps -/
def gD (l : List Dg) (p : Nat) : Dg := l.getD p (0, 0)
def swapD (l : List Dg) (j : Nat) : List Dg := (l.set (j + 1) (gD l j)).set j (gD l (j + 1))
def sinkD : Nat → List Dg → List Dg
  | 0, l => l
  | j + 1, l => if ltD (gD l (j + 1)) (gD l j) then sinkD j (swapD l j) else l
theorem gD_eq {l : List Dg} {p : Nat} (h : p < l.length) : gD l p = l[p] := by unfold gD; rw [List.getD_eq_getElem?_getD, List.getElem?_eq_getElem h]; rfl
theorem gD_some {l : List Dg} {p : Nat} (h : p < l.length) : l[p]? = some (gD l p) := by rw [gD_eq h, List.getElem?_eq_getElem h]
theorem swapD_length (l : List Dg) (j : Nat) : (swapD l j).length = l.length := by simp [swapD]
theorem sinkD_length : ∀ (j : Nat) (l : List Dg), (sinkD j l).length = l.length
  | 0, l => rfl
  | j + 1, l => by
    unfold sinkD
    split
    · rw [sinkD_length, swapD_length]
    · rfl
theorem swapD_perm {l : List Dg} {j : Nat} (h : j + 1 < l.length) : (swapD l j).Perm l := by
  unfold swapD
  rw [gD_eq h, gD_eq (by omega)]
  exact List.set_set_perm (by omega) (by omega)
theorem sinkD_perm : ∀ {j : Nat} {l : List Dg}, j < l.length → (sinkD j l).Perm l
  | 0, l, _ => .refl _
  | j + 1, l, h => by
    unfold sinkD
    split
    · exact (sinkD_perm (by rw [swapD_length]; omega)).trans (swapD_perm h)
    · exact .refl _
theorem swapD_get {l : List Dg} {j p : Nat} (h : j + 1 < l.length) : gD (swapD l j) p = if p = j then gD l (j + 1) else if p = j + 1 then gD l j else gD l p := by
  unfold swapD
  conv => lhs; unfold gD
  simp only [List.getD_eq_getElem?_getD]
  by_cases e1 : p = j
  · subst e1
    rw [List.getElem?_set_self (by simp; omega), if_pos rfl]; rfl
  · rw [List.getElem?_set_ne (fun e => e1 e.symm), if_neg e1]
    by_cases e2 : p = j + 1
    · subst e2
      rw [List.getElem?_set_self h, if_pos rfl]; rfl
    · rw [List.getElem?_set_ne (fun e => e2 e.symm), if_neg e2]
      unfold gD; rw [List.getD_eq_getElem?_getD]
def SUp (l : List Dg) (i : Nat) : Prop := ∀ p q, p < q → q ≤ i → leD (gD l p) (gD l q) = true
theorem sinkD_up : ∀ (j : Nat) (l : List Dg) (i : Nat), j < l.length → j ≤ i → (∀ p q, p < q → q ≤ i → p ≠ j → q ≠ j → leD (gD l p) (gD l q) = true) → (∀ q, j < q → q ≤ i → leD (gD l j) (gD l q) = true) → SUp (sinkD j l) i
  | 0, l, i, hl, hi, h1, h2 => by
    intro p q hpq hq
    by_cases e : p = 0
    · subst e; exact h2 q hpq hq
    · exact h1 p q hpq hq e (by omega)
  | j + 1, l, i, hl, hi, h1, h2 => by
    unfold sinkD
    cases hlt : ltD (gD l (j + 1)) (gD l j) with
    | true =>
      simp only [if_true]
      refine sinkD_up j (swapD l j) i (by rw [swapD_length]; omega) (by omega) (fun p q hpq hq hp hq' => ?_) (fun q hq hqi => ?_)
      · rw [swapD_get hl, swapD_get hl, if_neg hp, if_neg hq']
        by_cases e1 : p = j + 1
        · rw [if_pos e1, if_neg (by omega)]
          exact h1 j q (by omega) hq (by omega) (by omega)
        · rw [if_neg e1]
          by_cases e2 : q = j + 1
          · rw [if_pos e2]
            exact h1 p j (by omega) (by omega) e1 (by omega)
          · rw [if_neg e2]
            exact h1 p q hpq hq e1 e2
      · rw [swapD_get hl, swapD_get hl, if_pos rfl, if_neg (by omega)]
        by_cases e2 : q = j + 1
        · rw [if_pos e2]; exact leD_of_lt hlt
        · rw [if_neg e2]; exact h2 q (by omega) hqi
    | false =>
      simp only [Bool.false_eq_true, if_false]
      intro p q hpq hq
      by_cases e1 : p = j + 1
      · subst e1; exact h2 q hpq hq
      · by_cases e2 : q = j + 1
        · subst e2
          have := leD_of_not hlt
          by_cases e3 : p = j
          · subst e3; exact this
          · exact leD_trans (h1 p j (by omega) (by omega) e1 (by omega)) this
        · exact h1 p q hpq hq e1 e2
def isortD : Nat → Nat → List Dg → List Dg
  | 0, _, l => l
  | n + 1, i, l => isortD n (i + 1) (sinkD i l)
theorem isortD_spec : ∀ (n i : Nat) (l : List Dg), 0 < i → i + n = l.length → SUp l (i - 1) → SUp (isortD n i l) (l.length - 1) ∧ (isortD n i l).Perm l
  | 0, i, l, hi, hl, h => by
    refine ⟨?_, .refl _⟩
    rw [← hl]
    exact h
  | n + 1, i, l, hi, hl, h => by
    have hs := sinkD_up i l i (by omega) (Nat.le_refl _) (fun p q hpq hq hp hq' => h p q hpq (by omega)) (fun q h1 h2 => by omega)
    obtain ⟨h1, h2⟩ := isortD_spec n (i + 1) (sinkD i l) (by omega) (by rw [sinkD_length]; omega) (by simpa using hs)
    rw [sinkD_length] at h1
    exact ⟨h1, h2.trans (sinkD_perm (by omega))⟩
theorem isortD_eq (l : List Dg) : isortD (l.length - 1) 1 l = sortD l := by
  by_cases h0 : l.length = 0
  · have : l = [] := List.eq_nil_of_length_eq_zero h0
    subst this; rfl
  obtain ⟨h1, h2⟩ := isortD_spec (l.length - 1) 1 l (by omega) (by omega) (fun p q h1 h2 => by omega)
  refine sorted_unique ?_ (sortD_sorted l) (h2.trans (sortD_perm l).symm)
  unfold SortedD
  rw [List.pairwise_iff_getElem]
  intro p q hp hq hpq
  have hlen := h2.length_eq
  have := h1 p q hpq (by omega)
  rwa [gD_eq hp, gD_eq hq] at this
theorem take_while_idx (d : Dg) : ∀ (l : List Dg), ∃ k, k ≤ l.length ∧ l.takeWhile (ltD · d) = l.take k ∧ l.dropWhile (ltD · d) = l.drop k ∧ (∀ p, p < k → ltD (gD l p) d = true) ∧ (k < l.length → ltD (gD l k) d = false)
  | [] => ⟨0, by simp, by simp, by simp, by simp, by simp⟩
  | x :: t => by
    cases hx : ltD x d with
    | false => exact ⟨0, by simp, by simp [hx], by simp [hx], by simp, by simp [gD, hx]⟩
    | true =>
      obtain ⟨k, h1, h2, h3, h4, h5⟩ := take_while_idx d t
      refine ⟨k + 1, by simpa using h1, by simp [hx, h2], by simp [hx, h3], fun p hp => ?_, fun hk => ?_⟩
      · cases p with
        | zero => simpa [gD] using hx
        | succ p => simpa [gD] using h4 p (by omega)
      · simpa [gD] using h5 (by simpa using hk)
def inDg (n : Int) (d : Dg) : Bool := inB 0 (n - 1) d.1 && inB 0 (n - 1) d.2 && decide (d.2 - d.1 > 1) && !(d.1 == 0 && d.2 == n - 1)
def badT (n : Int) (ds : List Dg) (k : Nat) : Bool := !inDg n (gD ds k) || (decide (0 < k) && !ltD (gD ds (k - 1)) (gD ds k)) || (ds.take k).any (crossD (gD ds k))
def isTri (n : Int) (ds : List Dg) : Bool := inB 3 12 n && decide ((ds.length : Int) = n - 3) && !(List.range ds.length).any (badT n ds)
theorem isTri_iff (n : Int) (ds : List Dg) : isTri n ds = true ↔ (3 ≤ n ∧ n ≤ 12) ∧ (ds.length : Int) = n - 3 ∧ (∀ d ∈ ds, inDg n d = true) ∧ ds.Pairwise (fun d e => ltD d e = true ∧ crossD e d = false) := by
  unfold isTri
  simp only [Bool.and_eq_true, inB_iff, decide_eq_true_eq, Bool.not_eq_true', and_assoc]
  refine and_congr_right fun h1 => and_congr_right fun h2 => and_congr_right fun h3 => ?_
  rw [List.any_eq_false]
  simp only [List.mem_range, badT, Bool.or_eq_true, Bool.not_eq_true', Bool.and_eq_true, decide_eq_true_eq, not_or, not_and, Bool.not_eq_false, Bool.not_eq_true]
  have ltT : ∀ {a b c : Dg}, ltD a b = true → ltD b c = true → ltD a c = true := by
    intro a b c h1 h2; rw [ltD_iff] at *; omega
  constructor
  · intro h
    refine ⟨fun d hd => ?_, ?_⟩
    · obtain ⟨k, hk, e⟩ := List.getElem_of_mem hd
      have := (h k hk).1.1
      rwa [gD_eq hk, e] at this
    · have up : ∀ m p, p + m + 1 < ds.length → ltD (gD ds p) (gD ds (p + m + 1)) = true := by
        intro m
        induction m with
        | zero => intro p hp; have := (h (p + 1) hp).1.2 (by omega); simpa using this
        | succ m ih =>
          intro p hp
          have := (h (p + m + 1 + 1) (by omega)).1.2 (by omega)
          rw [show p + m + 1 + 1 - 1 = p + m + 1 by omega] at this
          have e2 := ltT (ih p (by omega)) this
          rwa [show p + (m + 1) + 1 = p + m + 1 + 1 by omega]
      rw [List.pairwise_iff_getElem]
      intro p q hp hq hpq
      have h2' := up (q - p - 1) p (by omega)
      rw [show p + (q - p - 1) + 1 = q by omega, gD_eq hp, gD_eq hq] at h2'
      refine ⟨h2', ?_⟩
      have := (h q hq).2
      rw [List.any_eq_false] at this
      have := this ds[p] (List.mem_take_iff_getElem.2 ⟨p, by omega, rfl⟩)
      rw [gD_eq hq] at this
      simpa using this
  · rintro ⟨g1, g2⟩ k hk
    rw [List.pairwise_iff_getElem] at g2
    refine ⟨⟨by rw [gD_eq hk]; exact g1 _ (List.getElem_mem hk), fun hk0 => ?_⟩, ?_⟩
    · rw [gD_eq hk, gD_eq (show k - 1 < ds.length by omega)]
      exact (g2 (k - 1) k (by omega) hk (by omega)).1
    · rw [List.any_eq_false]
      intro e he
      obtain ⟨p, hp, e'⟩ := List.mem_take_iff_getElem.1 he
      have := (g2 p k (by omega) hk (by omega)).2
      rw [e', ← gD_eq hk] at this
      simpa using this
theorem crossD_comm (d e : Dg) : crossD d e = crossD e d := by
  unfold crossD
  exact Bool.or_comm _ _
theorem good_isTri {n : Nat} {names : List Int} {ds : List Dg} (hn : 3 ≤ n ∧ n ≤ 12) (hnm : ∀ m ∈ names, 0 ≤ m ∧ m < n) (g : Good names ds) (hl : ds.length = n - 3) : isTri n (sortD ds) = true := by
  rw [isTri_iff]
  refine ⟨by omega, by rw [sortD_length]; omega, fun d hd => ?_, ?_⟩
  · obtain ⟨q1, q2, q3, ⟨m, q4, q5⟩, ⟨m', q6, q7⟩⟩ := g.1 d ((sortD_perm ds).mem_iff.1 hd)
    have a1 := hnm _ q1
    have a2 := hnm _ q2
    have a3 := hnm _ q6
    have i1 : inB 0 ((n : Int) - 1) d.1 = true := inB_iff.2 (by omega)
    have i2 : inB 0 ((n : Int) - 1) d.2 = true := inB_iff.2 (by omega)
    unfold inDg
    rw [i1, i2]
    simp
    omega
  · have h1 : (sortD ds).Pairwise Apart := (List.Perm.pairwise_iff (fun {x y} h => ⟨h.1.symm, by rw [crossD_comm]; exact h.2⟩) (sortD_perm ds)).2 g.2
    have h2 := sortD_sorted ds
    exact (List.Pairwise.and h2 h1).imp fun {a b} h => ⟨ltD_of h.1 h.2.1, by rw [crossD_comm]; exact h.2.2⟩
def bumpD (out : List Int) (d : Dg) : List Int := ((out.set d.1.toNat (out.getD d.1.toNat 0 + 1))).set d.2.toNat (out.getD d.2.toNat 0 + 1)
theorem bumpD_get {out : List Int} {d : Dg} {p : Nat} (h1 : 0 ≤ d.1) (h2 : d.1 < d.2) (h3 : d.2 < out.length) (hp : p < out.length) : (bumpD out d).getD p 0 = out.getD p 0 + cntD d p := by
  unfold bumpD cntD
  simp only [List.getD_eq_getElem?_getD]
  by_cases e2 : d.2.toNat = p
  · subst e2
    rw [List.getElem?_set_self (by simp; omega), if_neg (by omega), if_pos (by omega)]
    simp
  · rw [List.getElem?_set_ne e2]
    by_cases e1 : d.1.toNat = p
    · subst e1
      rw [List.getElem?_set_self (by omega), if_pos (by omega), if_neg (by omega)]
      simp
    · rw [List.getElem?_set_ne e1, if_neg (by omega), if_neg (by omega)]
      simp
theorem bumpD_length (out : List Int) (d : Dg) : (bumpD out d).length = out.length := by simp [bumpD]
def quid (n : Nat) (ds : List Dg) : List Int := (List.range n).map fun (p : Nat) => 1 + cnt ds (p : Int)
theorem cnt_cons (d : Dg) (t : List Dg) (m : Int) : cnt (d :: t) m = cntD d m + cnt t m := rfl
theorem cnt_perm {ds es : List Dg} (h : ds.Perm es) (m : Int) : cnt ds m = cnt es m := by
  induction h with
  | nil => rfl
  | cons x _ ih => rw [cnt_cons, cnt_cons, ih]
  | swap x y l => simp only [cnt_cons]; omega
  | trans _ _ h1 h2 => rw [h1, h2]
theorem bump_fold (n : Nat) : ∀ (ds : List Dg) (out : List Int), out.length = n → (∀ d ∈ ds, 0 ≤ d.1 ∧ d.1 < d.2 ∧ d.2 < (n : Int)) → (ds.foldl bumpD out).length = n ∧ ∀ p, p < n → (ds.foldl bumpD out).getD p 0 = out.getD p 0 + cnt ds p
  | [], out, hl, h => ⟨hl, fun p hp => by simp [cnt]⟩
  | d :: t, out, hl, h => by
    have hd := h d (by simp)
    obtain ⟨h1, h2⟩ := bump_fold n t (bumpD out d) (by rw [bumpD_length, hl]) (fun e he => h e (by simp [he]))
    refine ⟨h1, fun p hp => ?_⟩
    rw [List.foldl_cons, h2 p hp, bumpD_get hd.1 hd.2.1 (by omega) (by omega), cnt_cons]
    omega
def nameL (n : Nat) : List Int := (List.range n).map fun (k : Nat) => (k : Int)
theorem nameL_length (n : Nat) : (nameL n).length = n := by simp [nameL]
theorem nameL_succ (n : Nat) : nameL (n + 1) = nameL n ++ [(n : Int)] := by simp [nameL, List.range_succ]
theorem nameL_get {n p : Nat} (h : p < n) : (nameL n)[p]? = some (p : Int) := by simp [nameL, h]
theorem nameL_sorted (n : Nat) : (nameL n).Pairwise (· < ·) := by
  rw [List.pairwise_iff_getElem]
  intro i j hi hj hij
  simp [nameL]
  omega
theorem nameL_mem {n : Nat} {m : Int} (h : m ∈ nameL n) : 0 ≤ m ∧ m < n := by
  obtain ⟨p, hp, e⟩ := List.mem_map.1 h
  have := List.mem_range.1 hp
  subst e
  omega
theorem cnts_quid {l : List Int} {ds : List Dg} : Cnts l (nameL l.length) ds ↔ quid l.length ds = l := by
  constructor
  · intro h
    refine List.ext_getElem (by simp [quid]) fun p hp hp' => ?_
    have := h p l[p] (p : Int) (List.getElem?_eq_getElem hp') (nameL_get hp')
    rw [this]
    simp [quid]
  · intro h p v m hv hm
    have hp := getElem?_lt hv
    rw [nameL_get hp] at hm
    cases hm
    rw [← h] at hv
    simp only [quid, List.getElem?_map, List.getElem?_range hp, Option.map_some, Option.some.injEq] at hv
    exact hv.symm
def trOf (l : List Int) : Option (List Dg) :=
  if inB 3 12 l.length then
    match tri (l.length - 3) l (nameL l.length) with
    | some ds => if quid l.length ds = l then some (sortD ds) else none
    | none => none
  else none
theorem trOf_spec (l : List Int) (h : l.all (inB 1 12) = true) (hn : inB 3 12 l.length = true) : (triS (l.length - 3) l (nameL l.length)).map sortD = trOf l := by
  rw [inB_iff] at hn
  have hb : ∀ v ∈ l, 1 ≤ v ∧ v ≤ 4611686018427387904 := fun v hv => by
    have := inB_iff.1 (List.all_eq_true.1 h v hv)
    omega
  unfold trOf
  rw [if_pos (inB_iff.2 hn)]
  have hl : l.length = l.length - 3 + 3 := by omega
  cases hS : triS (l.length - 3) l (nameL l.length) with
  | some ds =>
    obtain ⟨g1, g2⟩ := triS_tri _ _ _ _ (nameL_sorted _) hl (by rw [nameL_length]; omega) hb hS
    rw [g1]
    simp only []
    rw [if_pos (cnts_quid.1 g2)]
    rfl
  | none =>
    cases hT : tri (l.length - 3) l (nameL l.length) with
    | none => rfl
    | some ds =>
      simp only []
      split
      · rename_i hq
        have := tri_triS _ _ _ _ (nameL_sorted _) hl (by rw [nameL_length]; omega) (by omega) hT (cnts_quid.2 hq)
        rw [this] at hS
        cases hS
      · rfl
theorem cnt_le : ∀ {ds : List Dg} {m : Int}, (∀ d ∈ ds, d.1 < d.2) → cnt ds m ≤ ds.length
  | [], m, h => by simp [cnt]
  | d :: t, m, h => by
    have := cnt_le (ds := t) (m := m) fun d hd => h d (by simp [hd])
    rw [cnt_cons, List.length_cons]
    have q := h d (by simp)
    have : cntD d m ≤ 1 := by unfold cntD; split <;> split <;> omega
    omega
theorem trOf_bad (l : List Int) (h : l.all (inB 1 12) = false) : trOf l = none := by
  unfold trOf
  split
  · rename_i hn
    rw [inB_iff] at hn
    split
    · rename_i ds hT
      rw [if_neg]
      intro hq
      have hds := (tri_good _ _ _ _ (nameL_sorted _) (by omega) (by rw [nameL_length]; omega) hT)
      rw [List.all_eq_false] at h
      obtain ⟨v, hv, hb⟩ := h
      rw [← hq] at hv
      obtain ⟨p, hp, e⟩ := List.mem_map.1 hv
      have c1 := cnt_nn ds p
      have c2 : cnt ds p ≤ ds.length := cnt_le fun d hd => (hds.2.1 d hd).2.2.1
      apply hb
      rw [inB_iff, ← e]
      omega
    · rfl
  · rfl
def triW : Nat → List Int → List Int → Option (List Int × List Dg)
  | 0, l, _ => some (l, [])
  | k + 1, l, names => match ear l with
    | none => none
    | some i => (triW k (cutL l i) (names.eraseIdx i)).map fun r => (r.1, cutD names i :: r.2)
def triSW : Nat → List Int → List Int → Option (List Int × List Dg)
  | 0, l, _ => some (l, [])
  | k + 1, l, names => match ear l with
    | none => none
    | some i => if okC l i then (triSW k (cutL l i) (names.eraseIdx i)).map fun r => (r.1, cutD names i :: r.2) else none
theorem tri_W : ∀ (k : Nat) (l names : List Int), tri k l names = (triW k l names).bind fun r => if r.1 = [1, 1, 1] then some r.2 else none
  | 0, l, names => by simp [tri, triW]
  | k + 1, l, names => by
    unfold tri triW
    cases ear l with
    | none => rfl
    | some i =>
      simp only []
      rw [tri_W k]
      cases triW k (cutL l i) (names.eraseIdx i) with
      | none => rfl
      | some r => by_cases h : r.1 = [1, 1, 1] <;> simp [h]
theorem triS_W : ∀ (k : Nat) (l names : List Int), triS k l names = (triSW k l names).bind fun r => if r.1 = [1, 1, 1] then some r.2 else none
  | 0, l, names => by simp [triS, triSW]
  | k + 1, l, names => by
    unfold triS triSW
    cases ear l with
    | none => rfl
    | some i =>
      simp only []
      split
      · rw [triS_W k]
        cases triSW k (cutL l i) (names.eraseIdx i) with
        | none => rfl
        | some r => by_cases h : r.1 = [1, 1, 1] <;> simp [h]
      · rfl
theorem triW_len : ∀ (k : Nat) (l names : List Int) (r : List Int × List Dg), l.length = k + 3 → triW k l names = some r → r.1.length = 3 ∧ r.2.length = k
  | 0, l, names, r, hl, h => by
    unfold triW at h
    cases h
    exact ⟨hl, rfl⟩
  | k + 1, l, names, r, hl, h => by
    unfold triW at h
    cases he : ear l with
    | none => rw [he] at h; cases h
    | some i =>
      rw [he] at h
      obtain ⟨r', h1, h2⟩ := Option.map_eq_some_iff.1 h
      subst h2
      obtain ⟨g1, g2⟩ := triW_len k _ _ r' (by rw [cutL_length (ear_lt he).1]; omega) h1
      exact ⟨g1, by simp [g2]⟩
theorem triSW_len : ∀ (k : Nat) (l names : List Int) (r : List Int × List Dg), l.length = k + 3 → triSW k l names = some r → r.1.length = 3 ∧ r.2.length = k
  | 0, l, names, r, hl, h => by
    unfold triSW at h
    cases h
    exact ⟨hl, rfl⟩
  | k + 1, l, names, r, hl, h => by
    unfold triSW at h
    cases he : ear l with
    | none => rw [he] at h; cases h
    | some i =>
      rw [he] at h
      simp only [] at h
      split at h
      · obtain ⟨r', h1, h2⟩ := Option.map_eq_some_iff.1 h
        subst h2
        obtain ⟨g1, g2⟩ := triSW_len k _ _ r' (by rw [cutL_length (ear_lt he).1]; omega) h1
        exact ⟨g1, by simp [g2]⟩
      · cases h
theorem nb_tmod {n i : Nat} (hn : 3 ≤ n) (hn2 : n < 1000000) (hi : i < n) :
    Int.tmod (w64 ((w64 ((i : Int) + (n : Int))) - 1)) (n : Int) = (nbB n i : Int) ∧ Int.tmod (w64 ((i : Int) + 1)) (n : Int) = (nbC n i : Int) := by
  rw [w64_id (z := (i : Int) + n) (by omega) (by omega), w64_id (by omega) (by omega), w64_id (by omega) (by omega)]
  rw [Int.tmod_eq_emod_of_nonneg (by omega), Int.tmod_eq_emod_of_nonneg (by omega)]
  unfold nbB nbC
  rw [show (i : Int) + n - 1 = ((i + n - 1 : Nat) : Int) by omega, show (i : Int) + 1 = ((i + 1 : Nat) : Int) by omega]
  exact ⟨(Int.natCast_emod _ _).symm, (Int.natCast_emod _ _).symm⟩
theorem set_getD {l : List Int} {p : Nat} (h : p < l.length) : l[p]? = some (l.getD p 0) := by rw [List.getD_eq_getElem?_getD, List.getElem?_eq_getElem h]; rfl
theorem take_drop_erase {X : Type} (l : List X) (i : Nat) : l.take i ++ l.drop (i + 1) = l.eraseIdx i := (List.eraseIdx_eq_take_drop_succ l i).symm


def F22_sh : FSh := ⟨[(.ag [(.si .i64), (.si .i64)]), (.ag [(.si .i64), (.si .i64)])], []⟩

def F22_fo : List FO := [⟨[(.one (.si .i64))], []⟩]
noncomputable def F22_t : ((Int × Int) × (Int × Int)) → T Int := fun ((a_0, a_1), (b_0, b_1)) =>
 (.sub (F38 (a_0, b_0)) fun z0 =>
 (.sub (F38 (a_1, b_1)) fun z1 =>
 (.test (decide (2 ≤ (List.length (List.set (List.set (List.replicate 2 (0 : Int)) 0 z0) 1 z1))))
 (.sub (F66 (win (List.set (List.set (List.replicate 2 (0 : Int)) 0 z0) 1 z1) 0 2)) fun z2 =>
 (.ret z2))
 .fail)))
noncomputable def F22 (v : ((Int × Int) × (Int × Int))) : Option Int := (F22_t v).run
noncomputable def F22_E : TEnv := ((E0.add1 n_F38 F38_sh F38_fo F38).add1 n_F66 F66_sh F66_fo F66)
theorem F22_Eok : (F22_E).OK := ((E0ok.add1 F38_ok).add1 F66_ok)
noncomputable def F22_told : Nat → Option SealT := fun id => none
theorem F22_ok : FOK Tryz.prog n_F22 F22_sh F22_fo F22 :=
  fn_ok (E := F22_E) (F22_Eok) (told := F22_told) (fl := []) (c := bodyOf fn_F22) (s := F22_sh) (l := F22_fo) (tree := F22_t) fnat_F22 (by kernel_rfl) (by kernel_rfl) (by kernel_rfl) (loopsOK_of (ls := []) (by kernel_rfl) trivial) (fun v => by kernel_rfl)

theorem F22_eq (d e : Dg) : F22 (d, e) = some (cmpD d e) := by
  obtain ⟨a, b⟩ := d
  obtain ⟨c, f⟩ := e
  have h2 : win (List.set (List.set (List.replicate 2 (0 : Int)) 0 (if a < c then -1 else if c < a then 1 else 0)) 1 (if b < f then -1 else if f < b then 1 else 0)) 0 2 = [if a < c then -1 else if c < a then 1 else 0, if b < f then -1 else if f < b then 1 else 0] := rfl
  simp only [F22, F22_t, T.run, F38_eq, Option.bind_some, h2, F66_two]
  simp only [List.length_set, List.length_replicate, Nat.le_refl, decide_true, if_true]
  congr 1
  unfold cmpD ltD
  simp only [decide_eq_true_eq]
  split <;> split <;> (try split) <;> (try split) <;> omega
theorem cmpD_lt (d e : Dg) : decide (cmpD d e < 0) = ltD d e := by
  unfold cmpD
  cases ltD d e <;> simp
  split <;> omega
theorem cmpD_ge (d e : Dg) : decide (cmpD d e ≥ 0) = !ltD d e := by
  unfold cmpD
  cases ltD d e <;> simp
  split <;> omega


def F0_sh : FSh := ⟨[(.one (.rw 0 0)), (.one (.si .i64)), (.one (.si .i64)), (.one (.fn n_F22))], [(.row 0 (.pair (.int .i64) (.int .i64)))]⟩

def F0_L4_sh : LSh := ⟨(fun ex => match ex with | .norm => [(0, none), (1, none), (2, none), (3, none), (8, none), (9, none)] | .exit i => if i = 2 then [(0, none), (1, none), (2, none), (3, none), (8, none)] else if i = 1 then [(0, none), (1, none), (2, none), (3, none), (8, none)] else if i = 0 then [] else [] | .ret => []), [(0, (.one (.rw 0 0))), (1, (.one (.si .i64))), (2, (.one (.si .i64))), (3, (.one (.fn n_F22))), (8, (.one (.si .i64))), (9, (.one (.si .i64)))], [(.row 0 (.pair (.int .i64) (.int .i64)))], [⟨(.exit 2), [(0, (.one (.rw 0 0))), (1, (.one (.si .i64))), (2, (.one (.si .i64))), (3, (.one (.fn n_F22))), (8, (.one (.si .i64)))], [(.row 0 (.pair (.int .i64) (.int .i64)))]⟩], [], []⟩
noncomputable def F0_L4_step : ((Unit × Int × Int × Unit × Int × Int) × List ((Int × Int))) → T (((Unit × Int × Int × Unit × Int × Int) × List ((Int × Int))) ⊕ ((Unit × Int × Int × Unit × Int) × List ((Int × Int)))) := fun (((), a, b, (), i, j), data) =>
 (.test (decide (j > a))
 (.test (decide ((0 ≤ j) ∧ (j < ((List.length data) : Int))))
 (.sub (data[(0 + (Int.toNat j))]?) fun z0 =>
 (.test (decide ((0 ≤ (w64 (j - 1))) ∧ ((w64 (j - 1)) < ((List.length data) : Int))))
 (.sub (data[(0 + (Int.toNat (w64 (j - 1))))]?) fun z1 =>
 (.sub (F22 ((z0.1, z0.2), (z1.1, z1.2))) fun z2 =>
 (.test (decide (z2 < 0))
 (.test (decide ((0 ≤ (w64 (j - 1))) ∧ ((w64 (j - 1)) < ((List.length data) : Int))))
 (.sub (data[(0 + (Int.toNat (w64 (j - 1))))]?) fun z3 =>
 (.test (decide ((0 ≤ j) ∧ (j < ((List.length data) : Int))))
 (.sub (data[(0 + (Int.toNat j))]?) fun z4 =>
 (.test (decide ((0 ≤ j) ∧ (j < ((List.length data) : Int))))
 (.sub (data[(0 + (Int.toNat j))]?) fun z5 =>
 (.test (decide ((0 ≤ (w64 (j - 1))) ∧ ((w64 (j - 1)) < ((List.length data) : Int))))
 (.sub ((List.set data (0 + (Int.toNat j)) (z3.1, z3.2))[(0 + (Int.toNat (w64 (j - 1))))]?) fun z6 =>
 (.test (decide ((0 = 0) ∧ ((List.length data) = (List.length (List.set (List.set data (0 + (Int.toNat j)) (z3.1, z3.2)) (0 + (Int.toNat (w64 (j - 1)))) (z4.1, z4.2))))))
 (.ret (Sum.inl (((), (a, (b, ((), (i, (w64 (j - 1))))))), (List.set (List.set data (0 + (Int.toNat j)) (z3.1, z3.2)) (0 + (Int.toNat (w64 (j - 1)))) (z4.1, z4.2)))))
 .fail))
 .fail))
 .fail))
 .fail))
 .fail)
 (.test (decide ((0 = 0) ∧ ((List.length data) = (List.length data))))
 (.ret (Sum.inr (((), (a, (b, ((), i)))), data)))
 .fail))))
 .fail))
 .fail)
 (.test (decide ((0 = 0) ∧ ((List.length data) = (List.length data))))
 (.ret (Sum.inr (((), (a, (b, ((), i)))), data)))
 .fail))
noncomputable def F0_L4 (v : ((Unit × Int × Int × Unit × Int × Int) × List ((Int × Int)))) : Option ((Unit × Int × Int × Unit × Int) × List ((Int × Int))) := loopO (fun v => (F0_L4_step v).run) v

def F0_L1_sh : LSh := ⟨(fun ex => match ex with | .norm => [(0, none), (1, none), (2, none), (3, none), (8, none)] | .exit i => if i = 0 then [] else [] | .ret => []), [(0, (.one (.rw 0 0))), (1, (.one (.si .i64))), (2, (.one (.si .i64))), (3, (.one (.fn n_F22))), (8, (.one (.si .i64)))], [(.row 0 (.pair (.int .i64) (.int .i64)))], [⟨(.exit 0), [], [(.row 0 (.pair (.int .i64) (.int .i64)))]⟩], [], []⟩
noncomputable def F0_L1_step : ((Unit × Int × Int × Unit × Int) × List ((Int × Int))) → T (((Unit × Int × Int × Unit × Int) × List ((Int × Int))) ⊕ (Unit × List ((Int × Int)))) := fun (((), a, b, (), i), data) =>
 (.test (decide (i < b))
 (.test (decide ((0 = 0) ∧ ((List.length data) = (List.length data))))
 (.sub (F0_L4 (((), (a, (b, ((), (i, i))))), data)) fun z0 =>
 (.test (decide ((0 = 0) ∧ ((List.length z0.2) = (List.length z0.2))))
 (.ret (Sum.inl (((), (z0.1.2.1, (z0.1.2.2.1, ((), (w64 (z0.1.2.2.2.2 + 1)))))), z0.2)))
 .fail))
 .fail)
 (.ret (Sum.inr ((), data))))
noncomputable def F0_L1 (v : ((Unit × Int × Int × Unit × Int) × List ((Int × Int)))) : Option (Unit × List ((Int × Int))) := loopO (fun v => (F0_L1_step v).run) v

def F0_fo : List FO := [⟨[], [(.row 0 (.pair (.int .i64) (.int .i64)))]⟩]
noncomputable def F0_t : ((Unit × Int × Int × Unit) × List ((Int × Int))) → T (Unit × List ((Int × Int))) := fun (((), a, b, ()), data) =>
 (.test (decide ((0 = 0) ∧ ((List.length data) = (List.length data))))
 (.sub (F0_L1 (((), (a, (b, ((), (w64 (a + 1)))))), data)) fun z0 =>
 (.ret ((), z0.2)))
 .fail)
noncomputable def F0 (v : ((Unit × Int × Int × Unit) × List ((Int × Int)))) : Option (Unit × List ((Int × Int))) := (F0_t v).run
noncomputable def F0_E : TEnv := (E0.add1 n_F22 F22_sh F22_fo F22)
theorem F0_Eok : (F0_E).OK := (E0ok.add1 F22_ok)
noncomputable def F0_told : Nat → Option SealT := fun id => if id = 4 then some (LSh.told F0_L4_sh 1 (F0_L4_step)) else if id = 1 then some (LSh.told F0_L1_sh 1 (F0_L1_step)) else none
theorem F0_L4_ok : ToldOK Tryz.prog 1 (loopAt (bodyOf fn_F7) [0, 0]) (LSh.told F0_L4_sh 1 (F0_L4_step)) :=
  loop_ok (E := F0_E) (F0_Eok) (told := F0_told) (l := F0_L4_sh) (step := F0_L4_step) (loopsOK_of (ls := []) (by kernel_rfl) trivial) (by kernel_rfl) (fun v => by kernel_rfl)
theorem F0_L1_ok : ToldOK Tryz.prog 1 (loopAt (bodyOf fn_F7) [0]) (LSh.told F0_L1_sh 1 (F0_L1_step)) :=
  loop_ok (E := F0_E) (F0_Eok) (told := F0_told) (l := F0_L1_sh) (step := F0_L1_step) (loopsOK_of (ls := [loopAt (bodyOf fn_F7) [0, 0]]) (by kernel_rfl) ⟨.inr ⟨_, by kernel_rfl, F0_L4_ok⟩, trivial⟩) (by kernel_rfl) (fun v => by kernel_rfl)
theorem F0_ok : FOK Tryz.prog n_F7 F0_sh F0_fo F0 :=
  fn_ok (E := F0_E) (F0_Eok) (told := F0_told) (fl := []) (c := bodyOf fn_F7) (s := F0_sh) (l := F0_fo) (tree := F0_t) fnat_F7 (by kernel_rfl) (by kernel_rfl) (by kernel_rfl) (loopsOK_of (ls := [loopAt (bodyOf fn_F7) [0]]) (by kernel_rfl) ⟨.inr ⟨_, by kernel_rfl, F0_L1_ok⟩, trivial⟩) (fun v => by kernel_rfl)

theorem F0_sink (b i : Int) : ∀ (j : Nat) (l : List Dg), j < l.length → l.length < 1000000 →
    F0_L4 (((), ((0 : Int), (b, ((), (i, (j : Int)))))), l) = some (((), ((0 : Int), (b, ((), i)))), sinkD j l)
  | 0, l, hj, hl => by
    simp only [F0_L4]
    exact loopO_done (by simp [F0_L4_step, T.run, sinkD])
  | j + 1, l, hj, hl => by
    have ih := F0_sink b i j (swapD l j) (by rw [swapD_length]; omega) (by rw [swapD_length]; omega)
    simp only [F0_L4] at ih ⊢
    have w1 : w64 (((j + 1 : Nat) : Int) - 1) = (j : Int) := by rw [w64_id (by omega) (by omega)]; omega
    have c0 : ((j + 1 : Nat) : Int) > 0 := by omega
    have c1 : (0 : Int) ≤ ((j + 1 : Nat) : Int) ∧ ((j + 1 : Nat) : Int) < (l.length : Int) := by omega
    have c2 : (0 : Int) ≤ (j : Int) ∧ (j : Int) < (l.length : Int) := by omega
    have g1 := gD_some hj
    have g2 := gD_some (show j < l.length by omega)
    cases hlt : ltD (gD l (j + 1)) (gD l j) with
    | false =>
      have e : sinkD (j + 1) l = l := by unfold sinkD; rw [hlt]; rfl
      rw [e]
      refine loopO_done ?_
      simp only [F0_L4_step, T.run, w1, c0, c1, c2, Int.toNat_natCast, Nat.zero_add, g1, g2, Option.bind_some, decide_true, if_true, F22_eq, cmpD_lt, hlt, and_self]
      simp
    | true =>
      have e : sinkD (j + 1) l = sinkD j (swapD l j) := by conv => lhs; unfold sinkD
                                                           rw [hlt]; rfl
      rw [e, ← ih]
      refine loopO_next ?_
      have g3 : (l.set (j + 1) (gD l j))[j]? = some (gD l j) := by rw [List.getElem?_set_ne (by omega)]; exact g2
      simp only [F0_L4_step, T.run, w1, c0, c1, c2, Int.toNat_natCast, Nat.zero_add, g1, g2, g3, Option.bind_some, decide_true, if_true, F22_eq, cmpD_lt, hlt, and_self]
      simp [swapD]
theorem F0_isort : ∀ (n i : Nat) (l : List Dg), i + n = l.length → l.length < 1000000 →
    F0_L1 (((), ((0 : Int), ((l.length : Int), ((), (i : Int))))), l) = some ((), isortD n i l)
  | 0, i, l, hi, hl => by
    simp only [F0_L1]
    refine loopO_done ?_
    have : ¬ ((i : Int) < (l.length : Int)) := by omega
    simp [F0_L1_step, T.run, this, isortD]
  | n + 1, i, l, hi, hl => by
    have ih := F0_isort n (i + 1) (sinkD i l) (by rw [sinkD_length]; omega) (by rw [sinkD_length]; omega)
    rw [sinkD_length] at ih
    simp only [F0_L1] at ih ⊢
    show _ = some ((), isortD n (i + 1) (sinkD i l))
    rw [← ih]
    refine loopO_next ?_
    have c0 : (i : Int) < (l.length : Int) := by omega
    have w1 : w64 ((i : Int) + 1) = ((i + 1 : Nat) : Int) := by rw [w64_id (by omega) (by omega)]; omega
    simp only [F0_L1_step, T.run, c0, decide_true, if_true, F0_sink _ _ i l (by omega) hl, Option.bind_some, w1, and_self]


def F1_sh : FSh := ⟨[(.one (.rw 0 0)), (.one (.si .i64)), (.one (.si .i64)), (.one (.si .i64)), (.one (.fn n_F22))], [(.row 0 (.pair (.int .i64) (.int .i64)))]⟩

def F1_L2_sh : LSh := ⟨(fun ex => match ex with | .norm => [(0, none), (1, none), (2, none), (3, none), (4, none), (10, none), (11, none)] | .exit i => if i = 0 then [] else [] | .ret => []), [(0, (.one (.rw 0 0))), (1, (.one (.si .i64))), (2, (.one (.si .i64))), (3, (.one (.si .i64))), (4, (.one (.fn n_F22))), (10, (.one .sb)), (11, (.one .sb))], [(.row 0 (.pair (.int .i64) (.int .i64)))], [⟨.ret, [], [(.row 0 (.pair (.int .i64) (.int .i64)))]⟩], [], []⟩
noncomputable def F1_L2_step : ((Unit × Int × Int × Int × Unit × Bool × Bool) × List ((Int × Int))) → T (((Unit × Int × Int × Int × Unit × Bool × Bool) × List ((Int × Int))) ⊕ (Unit × List ((Int × Int)))) := fun (((), a, b, limit, (), wasBalanced, wasPartitioned), data) =>
 (.test (decide ((w64 (b - a)) ≤ 12))
 (.test (decide ((0 = 0) ∧ ((List.length data) = (List.length data))))
 (.sub (F0 (((), (a, (b, ()))), data)) fun z0 =>
 (.ret (Sum.inr ((), z0.2))))
 .fail)
 (.test (limit == 0)
 .fail
 (.test (! wasBalanced)
 .fail
 .fail)))
noncomputable def F1_L2 (v : ((Unit × Int × Int × Int × Unit × Bool × Bool) × List ((Int × Int)))) : Option (Unit × List ((Int × Int))) := loopO (fun v => (F1_L2_step v).run) v

def F1_fo : List FO := [⟨[], [(.row 0 (.pair (.int .i64) (.int .i64)))]⟩]
noncomputable def F1_t : ((Unit × Int × Int × Int × Unit) × List ((Int × Int))) → T (Unit × List ((Int × Int))) := fun (((), a, b, limit, ()), data) =>
 (.test (decide ((0 = 0) ∧ ((List.length data) = (List.length data))))
 (.sub (F1_L2 (((), (a, (b, (limit, ((), (true, true)))))), data)) fun z0 =>
 (.ret ((), z0.2)))
 .fail)
noncomputable def F1 (v : ((Unit × Int × Int × Int × Unit) × List ((Int × Int)))) : Option (Unit × List ((Int × Int))) := (F1_t v).run
noncomputable def F1_E : TEnv := (E0.add1 n_F7 F0_sh F0_fo F0)
theorem F1_Eok : (F1_E).OK := (E0ok.add1 F0_ok)
noncomputable def F1_told : Nat → Option SealT := fun id => if id = 2 then some (LSh.told F1_L2_sh 1 (F1_L2_step)) else none
theorem F1_L2_ok : ToldOK Tryz.prog 1 (loopAt (bodyOf fn_F8) [0]) (LSh.told F1_L2_sh 1 (F1_L2_step)) :=
  loop_ok (E := F1_E) (F1_Eok) (told := F1_told) (l := F1_L2_sh) (step := F1_L2_step) (loopsOK_of (ls := []) (by kernel_rfl) trivial) (by kernel_rfl) (fun v => by kernel_rfl)
theorem F1_ok : FOK Tryz.prog n_F8 F1_sh F1_fo F1 :=
  fn_ok (E := F1_E) (F1_Eok) (told := F1_told) (fl := []) (c := bodyOf fn_F8) (s := F1_sh) (l := F1_fo) (tree := F1_t) fnat_F8 (by kernel_rfl) (by kernel_rfl) (by kernel_rfl) (loopsOK_of (ls := [loopAt (bodyOf fn_F8) [0]]) (by kernel_rfl) ⟨.inr ⟨_, by kernel_rfl, F1_L2_ok⟩, trivial⟩) (fun v => by kernel_rfl)

def F5_sh : FSh := ⟨[(.one (.rw 0 0)), (.one (.fn n_F22))], [(.row 0 (.pair (.int .i64) (.int .i64)))]⟩

def F5_fo : List FO := [⟨[], [(.row 0 (.pair (.int .i64) (.int .i64)))]⟩]
noncomputable def F5_t : ((Unit × Unit) × List ((Int × Int))) → T (Unit × List ((Int × Int))) := fun (((), ()), x) =>
 (.sub (F44 (wu64 ((List.length x) : Int))) fun z0 =>
 (.test (decide ((0 = 0) ∧ ((List.length x) = (List.length x))))
 (.sub (F1 (((), ((0 : Int), (((List.length x) : Int), (z0, ())))), x)) fun z1 =>
 (.ret ((), z1.2)))
 .fail))
noncomputable def F5 (v : ((Unit × Unit) × List ((Int × Int)))) : Option (Unit × List ((Int × Int))) := (F5_t v).run
noncomputable def F5_E : TEnv := ((E0.add1 n_F44 F44_sh F44_fo F44).add1 n_F8 F1_sh F1_fo F1)
theorem F5_Eok : (F5_E).OK := ((E0ok.add1 F44_ok).add1 F1_ok)
noncomputable def F5_told : Nat → Option SealT := fun id => none
theorem F5_ok : FOK Tryz.prog n_F13 F5_sh F5_fo F5 :=
  fn_ok (E := F5_E) (F5_Eok) (told := F5_told) (fl := []) (c := bodyOf fn_F13) (s := F5_sh) (l := F5_fo) (tree := F5_t) fnat_F13 (by kernel_rfl) (by kernel_rfl) (by kernel_rfl) (loopsOK_of (ls := []) (by kernel_rfl) trivial) (fun v => by kernel_rfl)

theorem F5_eq (l : List Dg) (hl : l.length ≤ 12) : F5 (((), ()), l) = some ((), sortD l) := by
  have hw : wu64 (l.length : Int) = (l.length : Int) := IntWalk.u64_in _ ⟨by omega, by omega⟩
  have hz : F44 (wu64 (l.length : Int)) = some (Lib.bitLen l.length : Int) := by
    rw [hw]; unfold F44; rw [if_pos ⟨by omega, by omega⟩, Int.toNat_natCast]
  have w0 : w64 ((l.length : Int) - 0) = (l.length : Int) := by rw [w64_id (by omega) (by omega)]; omega
  have w1 : w64 ((0 : Int) + 1) = ((1 : Nat) : Int) := by rw [w64_id (by omega) (by omega)]; rfl
  have c0 : (l.length : Int) ≤ 12 := by omega
  have hins : F0 (((), ((0 : Int), ((l.length : Int), ()))), l) = some ((), sortD l) := by
    simp only [F0, F0_t, T.run, w1]
    by_cases h0 : l.length = 0
    · have : l = [] := List.eq_nil_of_length_eq_zero h0
      subst this
      simp only [F0_L1]
      rw [loopO_done (o := ((), []))]
      · simp [sortD]
      · simp [F0_L1_step, T.run]
    · rw [F0_isort (l.length - 1) 1 l (by omega) (by omega), isortD_eq]
      simp
  simp only [F5, F5_t, T.run, hz, Option.bind_some, F1, F1_t, F1_L2]
  rw [loopO_done (o := ((), sortD l))]
  · simp
  · simp only [F1_L2_step, T.run, w0, c0, decide_true, if_true, hins, Option.bind_some]
    simp


def F34_sh : FSh := ⟨[(.one (.sl (.int .i64) false false)), (.one (.sl (.int .i64) false false))], []⟩

def F34_L4_sh : LSh := ⟨(fun ex => match ex with | .norm => [(0, none), (1, none), (12, none), (13, none)] | .exit i => if i = 0 then [] else [] | .ret => [(4, none)]), [(0, (.one (.sl (.int .i64) false false))), (1, (.one (.sl (.int .i64) false false))), (12, (.one (.si .i64))), (13, (.one (.si .i64)))], [], [⟨.ret, [(4, (.one .sb))], []⟩, ⟨(.exit 0), [], []⟩], [], []⟩
noncomputable def F34_L4_step : (List (Int) × List (Int) × Int × Int) → T ((List (Int) × List (Int) × Int × Int) ⊕ (Bool ⊕ Unit)) := fun (s1, s2, t12, t13) =>
 (.test (decide (t13 < t12))
 (.test (decide ((0 ≤ t13) ∧ (t13 < ((List.length s1) : Int))))
 (.sub (s1[(Int.toNat t13)]?) fun z0 =>
 (.test (decide ((0 ≤ t13) ∧ (t13 < ((List.length s2) : Int))))
 (.sub (s2[(Int.toNat t13)]?) fun z1 =>
 (.test (z0 != z1)
 (.ret (Sum.inr (Sum.inl false)))
 (.ret (Sum.inl (s1, (s2, (t12, (w64 (t13 + 1)))))))))
 .fail))
 .fail)
 (.ret (Sum.inr (Sum.inr ()))))
noncomputable def F34_L4 (v : (List (Int) × List (Int) × Int × Int)) : Option (Bool ⊕ Unit) := loopO (fun v => (F34_L4_step v).run) v

def F34_fo : List FO := [⟨[(.one .sb)], []⟩]
noncomputable def F34_t : (List (Int) × List (Int)) → T Bool := fun (s1, s2) =>
 (.test (((List.length s1) : Int) != ((List.length s2) : Int))
 (.ret false)
 (.sub (F34_L4 (s1, (s2, (((List.length s1) : Int), (0 : Int))))) fun z0 =>
 (.test (Sum.isLeft z0)
 (.sub (Sum.getLeft? z0) fun z1 =>
 (.ret z1))
 (.sub (Sum.getRight? z0) fun z2 =>
 (.ret true)))))
noncomputable def F34 (v : (List (Int) × List (Int))) : Option Bool := (F34_t v).run
noncomputable def F34_E : TEnv := E0
theorem F34_Eok : (F34_E).OK := E0ok
noncomputable def F34_told : Nat → Option SealT := fun id => if id = 4 then some (LSh.told F34_L4_sh 0 (F34_L4_step)) else none
theorem F34_L4_ok : ToldOK Tryz.prog 0 (loopAt (bodyOf fn_F34) [0]) (LSh.told F34_L4_sh 0 (F34_L4_step)) :=
  loop_ok (E := F34_E) (F34_Eok) (told := F34_told) (l := F34_L4_sh) (step := F34_L4_step) (loopsOK_of (ls := []) (by kernel_rfl) trivial) (by kernel_rfl) (fun v => by kernel_rfl)
theorem F34_ok : FOK Tryz.prog n_F34 F34_sh F34_fo F34 :=
  fn_ok (E := F34_E) (F34_Eok) (told := F34_told) (fl := []) (c := bodyOf fn_F34) (s := F34_sh) (l := F34_fo) (tree := F34_t) fnat_F34 (by kernel_rfl) (by kernel_rfl) (by kernel_rfl) (loopsOK_of (ls := [loopAt (bodyOf fn_F34) [0]]) (by kernel_rfl) ⟨.inr ⟨_, by kernel_rfl, F34_L4_ok⟩, trivial⟩) (fun v => by kernel_rfl)

theorem F34_eq (a b : List Int) (hl : a.length < 4611686018427387904) : F34 (a, b) = some (decide (a = b)) := by
  simp only [F34, F34_t, T.run]
  by_cases he : a.length = b.length
  · have h := loop_any (step := fun v => (F34_L4_step v).run) (xs := a.zip b) (fun p => p.1 != p.2) (fun k => (a, (b, ((a.length : Int), (k : Int))))) (.inl false) (.inr ())
      (fun k x hx => by
        obtain ⟨x1, x2⟩ := x
        rw [List.getElem?_zip_eq_some] at hx
        obtain ⟨h1, h2⟩ := hx
        simp only at h1 h2
        have hk := getElem?_lt h1
        have hk2 := getElem?_lt h2
        have c0 : (k : Int) < (a.length : Int) := by omega
        have c1 : (0 : Int) ≤ (k : Int) ∧ (k : Int) < (a.length : Int) := by omega
        have c2 : (0 : Int) ≤ (k : Int) ∧ (k : Int) < (b.length : Int) := by omega
        have w1 : w64 ((k : Int) + 1) = ((k + 1 : Nat) : Int) := by rw [w64_id (by omega) (by omega)]; omega
        simp only [F34_L4_step, T.run, c0, c1, c2, decide_true, if_true, and_self, Int.toNat_natCast, h1, h2, Option.bind_some, w1]
        cases x1 != x2 <;> simp)
      (by simp [F34_L4_step, T.run, he])
    simp only [Int.natCast_zero] at h
    rw [zip_any_ne a b he] at h
    have hne : ((a.length : Int) != (b.length : Int)) = false := by simp [he]
    simp only [F34_L4, h, hne]
    by_cases hab : a = b <;> simp [hab]
  · have : a ≠ b := fun e => he (by rw [e])
    have hne : ((a.length : Int) != (b.length : Int)) = true := by simp; omega
    simp [hne, this]


def F51_sh : FSh := ⟨[(.one (.si .i64)), (.ag [(.si .i64), (.si .i64)])], []⟩

def F51_fo : List FO := [⟨[(.one .sb)], []⟩]
noncomputable def F51_t : (Int × (Int × Int)) → T Bool := fun (n, (d_0, d_1)) =>
 (.sub (F80 (d_0, ((0 : Int), (w64 (n - 1))))) fun z0 =>
 (.test z0
 (.sub (F80 (d_1, ((0 : Int), (w64 (n - 1))))) fun z1 =>
 (.test z1
 (.test (decide ((w64 (d_1 - d_0)) > 1))
 (.test (d_0 == 0)
 (.ret (! (d_1 == (w64 (n - 1)))))
 (.ret true))
 (.ret false))
 (.ret false)))
 (.ret false)))
noncomputable def F51 (v : (Int × (Int × Int))) : Option Bool := (F51_t v).run
noncomputable def F51_E : TEnv := (E0.add1 n_F80 F80_sh F80_fo F80)
theorem F51_Eok : (F51_E).OK := (E0ok.add1 F80_ok)
noncomputable def F51_told : Nat → Option SealT := fun id => none
theorem F51_ok : FOK Tryz.prog n_F51 F51_sh F51_fo F51 :=
  fn_ok (E := F51_E) (F51_Eok) (told := F51_told) (fl := []) (c := bodyOf fn_F51) (s := F51_sh) (l := F51_fo) (tree := F51_t) fnat_F51 (by kernel_rfl) (by kernel_rfl) (by kernel_rfl) (loopsOK_of (ls := []) (by kernel_rfl) trivial) (fun v => by kernel_rfl)

theorem F51_eq (n : Int) (d : Dg) (h1 : 0 ≤ n) (h2 : n ≤ 1000000) : F51 (n, d) = some (inDg n d) := by
  obtain ⟨a, b⟩ := d
  have w1 : w64 (n - 1) = n - 1 := w64_id (by omega) (by omega)
  simp only [F51, F51_t, T.run, F80_eq, Option.bind_some, w1, inDg]
  cases ha : inB 0 (n - 1) a with
  | false => simp
  | true =>
    cases hb : inB 0 (n - 1) b with
    | false => simp
    | true =>
      rw [inB_iff] at ha hb
      have w2 : w64 (b - a) = b - a := w64_id (by omega) (by omega)
      rw [w2]
      by_cases h4 : a = 0
      · subst h4
        rw [Int.sub_zero]
        by_cases h5 : b > 1 <;> simp [h5, beq_int]
      · by_cases h5 : b - a > 1 <;> simp [h5, h4]


def F69_sh : FSh := ⟨[(.ag [(.si .i64), (.si .i64)]), (.ag [(.si .i64), (.si .i64)])], []⟩

def F69_fo : List FO := [⟨[(.one .sb)], []⟩]
noncomputable def F69_t : ((Int × Int) × (Int × Int)) → T Bool := fun ((d_0, d_1), (e_0, e_1)) =>
 (.test (decide (d_0 < e_0))
 (.test (decide (e_0 < d_1))
 (.test (decide (d_1 < e_1))
 (.ret true)
 (.test (decide (e_0 < d_0))
 (.test (decide (d_0 < e_1))
 (.ret (decide (e_1 < d_1)))
 (.ret false))
 (.ret false)))
 (.test (decide (e_0 < d_0))
 (.test (decide (d_0 < e_1))
 (.ret (decide (e_1 < d_1)))
 (.ret false))
 (.ret false)))
 (.test (decide (e_0 < d_0))
 (.test (decide (d_0 < e_1))
 (.ret (decide (e_1 < d_1)))
 (.ret false))
 (.ret false)))
noncomputable def F69 (v : ((Int × Int) × (Int × Int))) : Option Bool := (F69_t v).run
noncomputable def F69_E : TEnv := E0
theorem F69_Eok : (F69_E).OK := E0ok
noncomputable def F69_told : Nat → Option SealT := fun id => none
theorem F69_ok : FOK Tryz.prog n_F69 F69_sh F69_fo F69 :=
  fn_ok (E := F69_E) (F69_Eok) (told := F69_told) (fl := []) (c := bodyOf fn_F69) (s := F69_sh) (l := F69_fo) (tree := F69_t) fnat_F69 (by kernel_rfl) (by kernel_rfl) (by kernel_rfl) (loopsOK_of (ls := []) (by kernel_rfl) trivial) (fun v => by kernel_rfl)

theorem F69_eq (d e : Dg) : F69 (d, e) = some (crossD d e) := by
  obtain ⟨a, b⟩ := d
  obtain ⟨c, f⟩ := e
  simp only [F69, F69_t, T.run, crossD]
  by_cases h1 : a < c <;> by_cases h2 : c < b <;> by_cases h3 : b < f <;> by_cases h4 : c < a <;> by_cases h5 : a < f <;> by_cases h6 : f < b <;> simp [h1, h2, h3, h4, h5, h6]


def F19_sh : FSh := ⟨[(.ag [(.si .i64), (.si .i64)]), (.one (.pf 0 0 0))], [(.rcd 0 [(.si .i64), (.si .i64)])]⟩

def F19_fo : List FO := [⟨[(.one .sb)], [(.rcd 0 [(.si .i64), (.si .i64)])]⟩]
noncomputable def F19_t : (((Int × Int) × Unit) × (Int × Int)) → T (Bool × (Int × Int)) := fun (((e_0, e_1), ()), (t1_0, t1_1)) =>
 (.sub (F69 ((t1_0, t1_1), (e_0, e_1))) fun z0 =>
 (.ret (z0, (t1_0, t1_1))))
noncomputable def F19 (v : (((Int × Int) × Unit) × (Int × Int))) : Option (Bool × (Int × Int)) := (F19_t v).run
noncomputable def F19_E : TEnv := (E0.add1 n_F69 F69_sh F69_fo F69)
theorem F19_Eok : (F19_E).OK := (E0ok.add1 F69_ok)
noncomputable def F19_told : Nat → Option SealT := fun id => none
theorem F19_ok : FOK Tryz.prog n_F19 F19_sh F19_fo F19 :=
  fn_ok (E := F19_E) (F19_Eok) (told := F19_told) (fl := []) (c := bodyOf fn_F19) (s := F19_sh) (l := F19_fo) (tree := F19_t) fnat_F19 (by kernel_rfl) (by kernel_rfl) (by kernel_rfl) (loopsOK_of (ls := []) (by kernel_rfl) trivial) (fun v => by kernel_rfl)

def F3_sh : FSh := ⟨[(.one (.sl (.pair (.int .i64) (.int .i64)) false false)), (.clo n_F19 [(.one (.pf 0 0 0))])], [(.rcd 0 [(.si .i64), (.si .i64)])]⟩

def F3_L2_sh : LSh := ⟨(fun ex => match ex with | .norm => [(0, none), (1, none), (7, none), (8, none)] | .exit i => if i = 0 then [] else [] | .ret => [(4, none)]), [(0, (.one (.sl (.pair (.int .i64) (.int .i64)) false false))), (1, (.clo n_F19 [(.one (.pf 0 0 0))])), (7, (.one (.si .i64))), (8, (.one (.si .i64)))], [(.rcd 0 [(.si .i64), (.si .i64)])], [⟨.ret, [(4, (.one (.si .i64)))], [(.rcd 0 [(.si .i64), (.si .i64)])]⟩, ⟨(.exit 0), [], [(.rcd 0 [(.si .i64), (.si .i64)])]⟩], [], []⟩
noncomputable def F3_L2_step : ((List ((Int × Int)) × Unit × Int × Int) × (Int × Int)) → T (((List ((Int × Int)) × Unit × Int × Int) × (Int × Int)) ⊕ ((Int × (Int × Int)) ⊕ (Unit × (Int × Int)))) := fun ((s, (), t7, t8), (r0_0, r0_1)) =>
 (.test (decide (t8 < t7))
 (.test (decide ((0 ≤ t8) ∧ (t8 < ((List.length s) : Int))))
 (.sub (s[(Int.toNat t8)]?) fun z0 =>
 (.sub (F19 (((z0.1, z0.2), ()), (r0_0, r0_1))) fun z1 =>
 (.test z1.1
 (.ret (Sum.inr (Sum.inl (t8, (z1.2.1, z1.2.2)))))
 (.ret (Sum.inl ((s, ((), (t7, (w64 (t8 + 1))))), (z1.2.1, z1.2.2)))))))
 .fail)
 (.ret (Sum.inr (Sum.inr ((), (r0_0, r0_1))))))
noncomputable def F3_L2 (v : ((List ((Int × Int)) × Unit × Int × Int) × (Int × Int))) : Option ((Int × (Int × Int)) ⊕ (Unit × (Int × Int))) := loopO (fun v => (F3_L2_step v).run) v

def F3_fo : List FO := [⟨[(.one (.si .i64))], [(.rcd 0 [(.si .i64), (.si .i64)])]⟩]
noncomputable def F3_t : ((List ((Int × Int)) × Unit) × (Int × Int)) → T (Int × (Int × Int)) := fun ((s, ()), (r0_0, r0_1)) =>
 (.sub (F3_L2 ((s, ((), (((List.length s) : Int), (0 : Int)))), (r0_0, r0_1))) fun z0 =>
 (.test (Sum.isLeft z0)
 (.sub (Sum.getLeft? z0) fun z1 =>
 (.ret (z1.1, (z1.2.1, z1.2.2))))
 (.sub (Sum.getRight? z0) fun z2 =>
 (.ret ((-1), (z2.2.1, z2.2.2))))))
noncomputable def F3 (v : ((List ((Int × Int)) × Unit) × (Int × Int))) : Option (Int × (Int × Int)) := (F3_t v).run
noncomputable def F3_E : TEnv := (E0.add1 n_F19 F19_sh F19_fo F19)
theorem F3_Eok : (F3_E).OK := (E0ok.add1 F19_ok)
noncomputable def F3_told : Nat → Option SealT := fun id => if id = 2 then some (LSh.told F3_L2_sh 1 (F3_L2_step)) else none
theorem F3_L2_ok : ToldOK Tryz.prog 1 (loopAt (bodyOf fn_F11) [0]) (LSh.told F3_L2_sh 1 (F3_L2_step)) :=
  loop_ok (E := F3_E) (F3_Eok) (told := F3_told) (l := F3_L2_sh) (step := F3_L2_step) (loopsOK_of (ls := []) (by kernel_rfl) trivial) (by kernel_rfl) (fun v => by kernel_rfl)
theorem F3_ok : FOK Tryz.prog n_F11 F3_sh F3_fo F3 :=
  fn_ok (E := F3_E) (F3_Eok) (told := F3_told) (fl := []) (c := bodyOf fn_F11) (s := F3_sh) (l := F3_fo) (tree := F3_t) fnat_F11 (by kernel_rfl) (by kernel_rfl) (by kernel_rfl) (loopsOK_of (ls := [loopAt (bodyOf fn_F11) [0]]) (by kernel_rfl) ⟨.inr ⟨_, by kernel_rfl, F3_L2_ok⟩, trivial⟩) (fun v => by kernel_rfl)

def F2_sh : FSh := ⟨[(.one (.sl (.pair (.int .i64) (.int .i64)) false false)), (.clo n_F19 [(.one (.pf 0 0 0))])], [(.rcd 0 [(.si .i64), (.si .i64)])]⟩

def F2_fo : List FO := [⟨[(.one .sb)], [(.rcd 0 [(.si .i64), (.si .i64)])]⟩]
noncomputable def F2_t : ((List ((Int × Int)) × Unit) × (Int × Int)) → T (Bool × (Int × Int)) := fun ((s, ()), (r0_0, r0_1)) =>
 (.sub (F3 ((s, ()), (r0_0, r0_1))) fun z0 =>
 (.ret ((decide (z0.1 ≥ 0)), (z0.2.1, z0.2.2))))
noncomputable def F2 (v : ((List ((Int × Int)) × Unit) × (Int × Int))) : Option (Bool × (Int × Int)) := (F2_t v).run
noncomputable def F2_E : TEnv := (E0.add1 n_F11 F3_sh F3_fo F3)
theorem F2_Eok : (F2_E).OK := (E0ok.add1 F3_ok)
noncomputable def F2_told : Nat → Option SealT := fun id => none
theorem F2_ok : FOK Tryz.prog n_F10 F2_sh F2_fo F2 :=
  fn_ok (E := F2_E) (F2_Eok) (told := F2_told) (fl := []) (c := bodyOf fn_F10) (s := F2_sh) (l := F2_fo) (tree := F2_t) fnat_F10 (by kernel_rfl) (by kernel_rfl) (by kernel_rfl) (loopsOK_of (ls := []) (by kernel_rfl) trivial) (fun v => by kernel_rfl)

theorem F2_eq (s : List Dg) (d : Dg) (hl : s.length < 4611686018427387904) : F2 ((s, ()), d) = some (s.any (crossD d), d) := by
  obtain ⟨a, b⟩ := d
  have hc : ∀ e : Dg, F19 ((e, ()), (a, b)) = some (crossD (a, b) e, (a, b)) := by
    intro e
    obtain ⟨e0, e1⟩ := e
    simp [F19, F19_t, T.run, F69_eq]
  have h := loop_find (step := fun v => (F3_L2_step v).run) (xs := s) (crossD (a, b)) (fun k => ((s, ((), ((s.length : Int), (k : Int)))), (a, b))) (fun k => .inl ((k : Int), (a, b))) (.inr ((), (a, b)))
    (fun k x hx => by
      have hlt := getElem?_lt hx
      have h1 : (k : Int) < (s.length : Int) := by omega
      have h2 : (0 : Int) ≤ k ∧ (k : Int) < (s.length : Int) := by omega
      simp only [F3_L2_step, T.run, Int.toNat_natCast, hx, Option.bind_some, h1, h2, decide_true, if_true, and_self, hc]
      rw [w64_id (z := (k : Int) + 1) (by omega) (by omega)]
      cases hv : crossD (a, b) x <;> simp)
    (by simp [F3_L2_step, T.run])
  rw [show ((0 : Nat) : Int) = 0 from rfl] at h
  have hi : F3 ((s, ()), (a, b)) = some (idxI (crossD (a, b)) s, (a, b)) := by
    simp only [F3, F3_t, T.run, F3_L2]
    rw [h]
    simp only [idxI]
    cases hf : s.findIdx? (crossD (a, b)) <;> simp [Sum.isLeft]
  simp only [F2, F2_t, T.run, hi, Option.bind_some, idxI_ge]


end Go.Proofs.W
