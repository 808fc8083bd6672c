import Derived.Test.YtppalpflejcjeaaGreatMCiIds
set_option linter.unusedVariables false
set_option linter.unusedSimpArgs false
set_option maxRecDepth 100000
set_option maxHeartbeats 4000000
namespace Go.Proofs.W
open Go Go.Gm Go.Proofs
open Go.RowKit Go.Shelf
def F128_sh : FSh := ⟨[(.one (.sl (.int .u8) false false)), (.one (.sl (.int .u8) false false))], []⟩
def F128_fo : List FO := [⟨[(.one .sb)], []⟩]
noncomputable def F128_t : (List (Int) × List (Int)) → T Bool := fun (code, more) =>
 (.test (decide ((code.length : Int) > 1048576))
 (.ret true)
 (.ret (decide ((more.length : Int) > (w64 (1048576 - (code.length : Int)))))))
noncomputable def F128 (v) := (F128_t v).run
noncomputable def F128_E : TEnv := E0
theorem F128_Eok : (F128_E).OK := E0ok
noncomputable def F128_told : Nat → Option SealT := fun id => none
theorem F128_ok : FOK Tryz.prog n_F128 F128_sh F128_fo F128 :=
 fn_ok (E := F128_E) (F128_Eok) (told := F128_told) (fl := []) (c := bodyOf fn_F128) (s := F128_sh) (l := F128_fo) (tree := F128_t) fnat_F128 (by kernel_rfl) (by kernel_rfl) (by kernel_rfl) (loopsOK_of (ls := []) (by kernel_rfl) trivial) (fun v => by kernel_rfl)
def F55_sh : FSh := ⟨[(.one (.pf 0 0 0))], [(.rcd 0 [(.sl (.int .u8) false true), (.si .i64), (.si .u64)])]⟩
def F55_fo : List FO := [⟨[(.one (.si .i64))], [(.rcd 0 [(.sl (.int .u8) false true), (.si .i64), (.si .u64)])]⟩]
noncomputable def F55_t : (Unit × (List (Int) × Int × Int)) → T (Int × (List (Int) × Int × Int)) := fun ((), (c_0, c_1, c_2)) =>
 (.test (decide (c_1 < (c_0.length : Int)))
 (.test (decide ((0 ≤ c_1) ∧ (c_1 < (c_0.length : Int))))
 (.sub (c_0[(Int.toNat c_1)]?) fun z0 =>
 (.test (decide ((w64 (c_1 + 1)) ≤ (c_0.length : Int)))
 (.ret ((w64 z0), (c_0, ((w64 (c_1 + 1)), (wu64 ((wu64 ((wu64 (c_2 * 6364136223846793005)) + (wu64 (w64 z0)))) + 1442695040888963407))))))
 (.ret ((w64 (wu64 (((Int.toNat ((Int.rec
 (fun a =>
 (fun a =>
 Nat.casesOn a ((fun x => 0) (2 ^ min (Int.toNat 40) IntKind.u64.bits)) fun n =>
 Int.casesOn (2 ^ min (Int.toNat 40) IntKind.u64.bits) (fun a => (fun m n => Int.ofNat (m / n)) n.succ a)
 fun a => (fun m n => Int.negSucc (m / n.succ)) n a)
 a)
 (fun a =>
 (fun a =>
 Int.casesOn (2 ^ min (Int.toNat 40) IntKind.u64.bits)
 (fun a_1 => Nat.casesOn a_1 ((fun a => 0) a) fun n => (fun m n => Int.negSucc (m / n.succ)) a n) fun a_1 =>
 (fun m n => Int.ofNat (m.succ / n.succ)) a a_1)
 a)
 (IntKind.u64.wrap
 (IntKind.u64.wrap
 (IntKind.u64.wrap (c_2 * Int.ofNat 6364136223846793005) + IntKind.u64.wrap (IntKind.i64.wrap z0)) +
 Int.ofNat 1442695040888963407))) % 18446744073709551616)) &&& 255 : Nat) : Int))), (c_0, ((w64 (c_1 + 1)), (wu64 ((wu64 ((wu64 (c_2 * 6364136223846793005)) + (wu64 (w64 z0)))) + 1442695040888963407))))))))
 .fail)
 (.test (decide ((w64 (c_1 + 1)) ≤ (c_0.length : Int)))
 (.ret ((0 : Int), (c_0, ((w64 (c_1 + 1)), (wu64 ((wu64 ((wu64 (c_2 * 6364136223846793005)) + 0)) + 1442695040888963407))))))
 (.ret ((w64 (wu64 (((Int.toNat ((Int.rec
 (fun a =>
 (fun a =>
 Nat.casesOn a ((fun x => 0) (2 ^ min (Int.toNat 40) IntKind.u64.bits)) fun n =>
 Int.casesOn (2 ^ min (Int.toNat 40) IntKind.u64.bits) (fun a => (fun m n => Int.ofNat (m / n)) n.succ a)
 fun a => (fun m n => Int.negSucc (m / n.succ)) n a)
 a)
 (fun a =>
 (fun a =>
 Int.casesOn (2 ^ min (Int.toNat 40) IntKind.u64.bits)
 (fun a_1 => Nat.casesOn a_1 ((fun a => 0) a) fun n => (fun m n => Int.negSucc (m / n.succ)) a n) fun a_1 =>
 (fun m n => Int.ofNat (m.succ / n.succ)) a a_1)
 a)
 (IntKind.u64.wrap
 (IntKind.u64.wrap (IntKind.u64.wrap (c_2 * Int.ofNat 6364136223846793005) + Int.ofNat 0) +
 Int.ofNat 1442695040888963407))) % 18446744073709551616)) &&& 255 : Nat) : Int))), (c_0, ((w64 (c_1 + 1)), (wu64 ((wu64 ((wu64 (c_2 * 6364136223846793005)) + 0)) + 1442695040888963407))))))))
noncomputable def F55 (v) := (F55_t v).run
noncomputable def F55_E : TEnv := E0
theorem F55_Eok : (F55_E).OK := E0ok
noncomputable def F55_told : Nat → Option SealT := fun id => none
theorem F55_ok : FOK Tryz.prog n_F55 F55_sh F55_fo F55 :=
 fn_ok (E := F55_E) (F55_Eok) (told := F55_told) (fl := []) (c := bodyOf fn_F55) (s := F55_sh) (l := F55_fo) (tree := F55_t) fnat_F55 (by kernel_rfl) (by kernel_rfl) (by kernel_rfl) (loopsOK_of (ls := []) (by kernel_rfl) trivial) (fun v => by kernel_rfl)
def F56_sh : FSh := ⟨[(.one (.pf 0 0 0)), (.one (.si .i64))], [(.rcd 0 [(.sl (.int .u8) false true), (.si .i64), (.si .u64)])]⟩
def F56_fo : List FO := [⟨[(.one (.si .i64))], [(.rcd 0 [(.sl (.int .u8) false true), (.si .i64), (.si .u64)])]⟩]
noncomputable def F56_t : ((Unit × Int) × (List (Int) × Int × Int)) → T (Int × (List (Int) × Int × Int)) := fun (((), n), (c_0, c_1, c_2)) =>
 (.test (decide (n ≤ 1))
 (.ret ((0 : Int), (c_0, (c_1, c_2))))
 (.sub (F55 ((), (c_0, (c_1, c_2)))) fun z0 =>
 (.test (decide (n > 200))
 (.sub (F55 ((), (z0.2.1, (z0.2.2.1, z0.2.2.2)))) fun z1 =>
 (.test (decide (n ≠ 0))
 (.ret ((Int.tmod (w64 ((w64 (z0.1 * 256)) + z1.1)) n), (z1.2.1, (z1.2.2.1, z1.2.2.2))))
 .fail))
 (.test (decide (n ≠ 0))
 (.ret ((Int.tmod z0.1 n), (z0.2.1, (z0.2.2.1, z0.2.2.2))))
 .fail))))
noncomputable def F56 (v) := (F56_t v).run
noncomputable def F56_E : TEnv := (E0.add1 n_F55 F55_sh F55_fo F55)
theorem F56_Eok : (F56_E).OK := (E0ok.add1 F55_ok)
noncomputable def F56_told : Nat → Option SealT := fun id => none
theorem F56_ok : FOK Tryz.prog n_F56 F56_sh F56_fo F56 :=
 fn_ok (E := F56_E) (F56_Eok) (told := F56_told) (fl := []) (c := bodyOf fn_F56) (s := F56_sh) (l := F56_fo) (tree := F56_t) fnat_F56 (by kernel_rfl) (by kernel_rfl) (by kernel_rfl) (loopsOK_of (ls := []) (by kernel_rfl) trivial) (fun v => by kernel_rfl)
def F101_sh : FSh := ⟨[(.one (.sl (.int .i64) false false))], []⟩
def F101_fo : List FO := [⟨[(.one (.rw 0 0))], [(.row 0 (.int .i64))]⟩]
noncomputable def F101_t : List (Int) → T (Unit × List (Int)) := fun l =>
 (.test true
 (.test (decide ((2 * ((0 + l.length) * 9)) ≤ 140737488355328))
 (.test (decide ((0 = 0) ∧ ((0 + l.length) = (List.length ((win (List.replicate 0 (0 : Int)) 0 0) ++ l)))))
 (.ret ((), ((win (List.replicate 0 (0 : Int)) 0 0) ++ l)))
 .fail)
 .fail)
 .fail)
noncomputable def F101 (v) := (F101_t v).run
noncomputable def F101_E : TEnv := E0
theorem F101_Eok : (F101_E).OK := E0ok
noncomputable def F101_told : Nat → Option SealT := fun id => none
theorem F101_ok : FOK Tryz.prog n_F101 F101_sh F101_fo F101 :=
 fn_ok (E := F101_E) (F101_Eok) (told := F101_told) (fl := []) (c := bodyOf fn_F101) (s := F101_sh) (l := F101_fo) (tree := F101_t) fnat_F101 (by kernel_rfl) (by kernel_rfl) (by kernel_rfl) (loopsOK_of (ls := []) (by kernel_rfl) trivial) (fun v => by kernel_rfl)
theorem F101_eq (l : List Int) (hl : l.length < 1000000000000) : F101 l = some ((), l) := by
 have h : 2 * (l.length * 9) ≤ 140737488355328 := by omega
 have hw : win ([] : List Int) 0 0 = [] := rfl
 simp [F101, F101_t, T.run, hw, h]
def F22_sh : FSh := ⟨[(.one (.pf 0 0 0)), (.one (.si .i64))], [(.rcd 0 [(.sl (.int .u8) false true), (.si .i64), (.si .u64)])]⟩
def F22_L2_sh : LSh := ⟨(fun ex => match ex with | .norm => [(0, none), (1, none), (5, none)] | .exit i => if i = 0 then [(5, none)] else [] | .ret => [(4, none)]), [(0, (.one (.pf 0 0 0))), (1, (.one (.si .i64))), (5, (.one (.rw 1 0)))], [(.rcd 0 [(.sl (.int .u8) false true), (.si .i64), (.si .u64)]), (.row 0 (.int .i64))], [⟨(.exit 0), [(5, (.one (.rw 1 0)))], [(.rcd 0 [(.sl (.int .u8) false true), (.si .i64), (.si .u64)]), (.row 0 (.int .i64))]⟩], [], []⟩
noncomputable def F22_L2_step : ((Unit × Int × Unit) × ((List (Int) × Int × Int) × List (Int))) → T (((Unit × Int × Unit) × ((List (Int) × Int × Int) × List (Int))) ⊕ (Unit × ((List (Int) × Int × Int) × List (Int)))) := fun (((), n, ()), ((c_0, c_1, c_2), out)) =>
 (.test (decide ((out.length : Int) < n))
 (.sub (F56 (((), (out.length : Int)), (c_0, (c_1, c_2)))) fun z0 =>
 (.test (decide (0 ≤ (w64 (1 + z0.1))))
 (.test (decide ((0 ≤ (Int.toNat (w64 (1 + z0.1)))) ∧ ((Int.toNat (w64 (1 + z0.1))) ≤ out.length)))
 (.test (decide ((0 + ((Int.toNat (w64 (1 + z0.1))) - 0)) ≤ out.length))
 (.sub (F101 (win out 0 ((Int.toNat (w64 (1 + z0.1))) - 0))) fun z1 =>
 (.test true
 (.test (decide ((0 + z1.2.length) ≤ z1.2.length))
 (.test (decide ((2 * ((z1.2.length + 1) * 9)) ≤ 140737488355328))
 (.test (decide (0 ≤ (w64 (1 + z0.1))))
 (.test (decide (((Int.toNat (w64 (1 + z0.1))) ≤ out.length) ∧ (out.length ≤ out.length)))
 (.test (decide (((0 + (Int.toNat (w64 (1 + z0.1)))) + (out.length - (Int.toNat (w64 (1 + z0.1))))) ≤ out.length))
 (.test (decide ((0 + (z1.2.length + 1)) ≤ (List.length ((win z1.2 0 z1.2.length) ++ (win (List.set (List.replicate 1 (0 : Int)) 0 (1 : Int)) 0 1)))))
 (.test (decide ((2 * (((z1.2.length + 1) + (List.length (win out (0 + (Int.toNat (w64 (1 + z0.1)))) (out.length - (Int.toNat (w64 (1 + z0.1))))))) * 9)) ≤ 140737488355328))
 (.test (decide ((0 ≤ (w64 ((w64 (1 + z0.1)) - 1))) ∧ ((w64 ((w64 (1 + z0.1)) - 1)) < (((z1.2.length + 1) + (List.length (win out (0 + (Int.toNat (w64 (1 + z0.1)))) (out.length - (Int.toNat (w64 (1 + z0.1))))))) : Int))))
 (.sub (((win ((win z1.2 0 z1.2.length) ++ (win (List.set (List.replicate 1 (0 : Int)) 0 (1 : Int)) 0 1)) 0 (z1.2.length + 1)) ++ (win out (0 + (Int.toNat (w64 (1 + z0.1)))) (out.length - (Int.toNat (w64 (1 + z0.1))))))[(0 + (Int.toNat (w64 ((w64 (1 + z0.1)) - 1))))]?) fun z2 =>
 (.test (decide ((0 ≤ (w64 ((w64 (1 + z0.1)) - 1))) ∧ ((w64 ((w64 (1 + z0.1)) - 1)) < (((z1.2.length + 1) + (List.length (win out (0 + (Int.toNat (w64 (1 + z0.1)))) (out.length - (Int.toNat (w64 (1 + z0.1))))))) : Int))))
 (.sub (((win ((win z1.2 0 z1.2.length) ++ (win (List.set (List.replicate 1 (0 : Int)) 0 (1 : Int)) 0 1)) 0 (z1.2.length + 1)) ++ (win out (0 + (Int.toNat (w64 (1 + z0.1)))) (out.length - (Int.toNat (w64 (1 + z0.1))))))[(0 + (Int.toNat (w64 ((w64 (1 + z0.1)) - 1))))]?) fun z3 =>
 (.test (decide ((((z1.2.length + 1) + (List.length (win out (0 + (Int.toNat (w64 (1 + z0.1)))) (out.length - (Int.toNat (w64 (1 + z0.1))))))) : Int) ≠ 0))
 (.test (decide ((0 ≤ (Int.tmod (w64 ((w64 (1 + z0.1)) + 1)) (((z1.2.length + 1) + (List.length (win out (0 + (Int.toNat (w64 (1 + z0.1)))) (out.length - (Int.toNat (w64 (1 + z0.1))))))) : Int))) ∧ ((Int.tmod (w64 ((w64 (1 + z0.1)) + 1)) (((z1.2.length + 1) + (List.length (win out (0 + (Int.toNat (w64 (1 + z0.1)))) (out.length - (Int.toNat (w64 (1 + z0.1))))))) : Int)) < (((z1.2.length + 1) + (List.length (win out (0 + (Int.toNat (w64 (1 + z0.1)))) (out.length - (Int.toNat (w64 (1 + z0.1))))))) : Int))))
 (.sub ((List.set ((win ((win z1.2 0 z1.2.length) ++ (win (List.set (List.replicate 1 (0 : Int)) 0 (1 : Int)) 0 1)) 0 (z1.2.length + 1)) ++ (win out (0 + (Int.toNat (w64 (1 + z0.1)))) (out.length - (Int.toNat (w64 (1 + z0.1)))))) (0 + (Int.toNat (w64 ((w64 (1 + z0.1)) - 1)))) (w64 (z2 + 1)))[(0 + (Int.toNat (Int.tmod (w64 ((w64 (1 + z0.1)) + 1)) (((z1.2.length + 1) + (List.length (win out (0 + (Int.toNat (w64 (1 + z0.1)))) (out.length - (Int.toNat (w64 (1 + z0.1))))))) : Int))))]?) fun z4 =>
 (.test (decide ((0 ≤ (Int.tmod (w64 ((w64 (1 + z0.1)) + 1)) (((z1.2.length + 1) + (List.length (win out (0 + (Int.toNat (w64 (1 + z0.1)))) (out.length - (Int.toNat (w64 (1 + z0.1))))))) : Int))) ∧ ((Int.tmod (w64 ((w64 (1 + z0.1)) + 1)) (((z1.2.length + 1) + (List.length (win out (0 + (Int.toNat (w64 (1 + z0.1)))) (out.length - (Int.toNat (w64 (1 + z0.1))))))) : Int)) < (((z1.2.length + 1) + (List.length (win out (0 + (Int.toNat (w64 (1 + z0.1)))) (out.length - (Int.toNat (w64 (1 + z0.1))))))) : Int))))
 (.sub ((List.set ((win ((win z1.2 0 z1.2.length) ++ (win (List.set (List.replicate 1 (0 : Int)) 0 (1 : Int)) 0 1)) 0 (z1.2.length + 1)) ++ (win out (0 + (Int.toNat (w64 (1 + z0.1)))) (out.length - (Int.toNat (w64 (1 + z0.1)))))) (0 + (Int.toNat (w64 ((w64 (1 + z0.1)) - 1)))) (w64 (z2 + 1)))[(0 + (Int.toNat (Int.tmod (w64 ((w64 (1 + z0.1)) + 1)) (((z1.2.length + 1) + (List.length (win out (0 + (Int.toNat (w64 (1 + z0.1)))) (out.length - (Int.toNat (w64 (1 + z0.1))))))) : Int))))]?) fun z5 =>
 (.test (decide ((0 = 0) ∧ (((z1.2.length + 1) + (List.length (win out (0 + (Int.toNat (w64 (1 + z0.1)))) (out.length - (Int.toNat (w64 (1 + z0.1))))))) = (List.length (List.set (List.set ((win ((win z1.2 0 z1.2.length) ++ (win (List.set (List.replicate 1 (0 : Int)) 0 (1 : Int)) 0 1)) 0 (z1.2.length + 1)) ++ (win out (0 + (Int.toNat (w64 (1 + z0.1)))) (out.length - (Int.toNat (w64 (1 + z0.1)))))) (0 + (Int.toNat (w64 ((w64 (1 + z0.1)) - 1)))) (w64 (z2 + 1))) (0 + (Int.toNat (Int.tmod (w64 ((w64 (1 + z0.1)) + 1)) (((z1.2.length + 1) + (List.length (win out (0 + (Int.toNat (w64 (1 + z0.1)))) (out.length - (Int.toNat (w64 (1 + z0.1))))))) : Int)))) (w64 (z4 + 1)))))))
 (.ret (Sum.inl (((), (n, ())), ((z0.2.1, (z0.2.2.1, z0.2.2.2)), (List.set (List.set ((win ((win z1.2 0 z1.2.length) ++ (win (List.set (List.replicate 1 (0 : Int)) 0 (1 : Int)) 0 1)) 0 (z1.2.length + 1)) ++ (win out (0 + (Int.toNat (w64 (1 + z0.1)))) (out.length - (Int.toNat (w64 (1 + z0.1)))))) (0 + (Int.toNat (w64 ((w64 (1 + z0.1)) - 1)))) (w64 (z2 + 1))) (0 + (Int.toNat (Int.tmod (w64 ((w64 (1 + z0.1)) + 1)) (((z1.2.length + 1) + (List.length (win out (0 + (Int.toNat (w64 (1 + z0.1)))) (out.length - (Int.toNat (w64 (1 + z0.1))))))) : Int)))) (w64 (z4 + 1)))))))
 .fail))
 .fail))
 .fail)
 .fail))
 .fail))
 .fail)
 .fail)
 .fail)
 .fail)
 .fail)
 .fail)
 .fail)
 .fail)
 .fail))
 .fail)
 .fail)
 .fail))
 (.test (decide ((0 = 0) ∧ (out.length = out.length)))
 (.ret (Sum.inr ((), ((c_0, (c_1, c_2)), out))))
 .fail))
noncomputable def F22_L2 (v) := loopO (fun v => (F22_L2_step v).run) v
def F22_fo : List FO := [⟨[(.one (.rw 1 0))], [(.rcd 0 [(.sl (.int .u8) false true), (.si .i64), (.si .u64)]), (.row 0 (.int .i64))]⟩]
noncomputable def F22_t : ((Unit × Int) × (List (Int) × Int × Int)) → T (Unit × ((List (Int) × Int × Int) × List (Int))) := fun (((), n), (c_0, c_1, c_2)) =>
 (.test (decide ((0 = 0) ∧ (3 = (List.length (List.set (List.set (List.set (List.replicate 3 (0 : Int)) 0 (1 : Int)) 1 (1 : Int)) 2 (1 : Int))))))
 (.sub (F22_L2 (((), (n, ())), ((c_0, (c_1, c_2)), (List.set (List.set (List.set (List.replicate 3 (0 : Int)) 0 (1 : Int)) 1 (1 : Int)) 2 (1 : Int))))) fun z0 =>
 (.test (decide ((0 = 0) ∧ (z0.2.2.length = z0.2.2.length)))
 (.ret ((), ((z0.2.1.1, (z0.2.1.2.1, z0.2.1.2.2)), z0.2.2)))
 .fail))
 .fail)
noncomputable def F22 (v) := (F22_t v).run
noncomputable def F22_E : TEnv := ((E0.add1 n_F56 F56_sh F56_fo F56).add1 n_F101 F101_sh F101_fo F101)
theorem F22_Eok : (F22_E).OK := ((E0ok.add1 F56_ok).add1 F101_ok)
noncomputable def F22_told : Nat → Option SealT := fun id => if id = 2 then some (LSh.told F22_L2_sh 1 (F22_L2_step)) else none
theorem F22_L2_ok : ToldOK Tryz.prog 1 (loopAt (bodyOf fn_F22) [0]) (LSh.told F22_L2_sh 1 (F22_L2_step)) :=
 loop_ok (E := F22_E) (F22_Eok) (told := F22_told) (l := F22_L2_sh) (step := F22_L2_step) (loopsOK_of (ls := []) (by kernel_rfl) trivial) (by kernel_rfl) (fun v => by kernel_rfl)
theorem F22_ok : FOK Tryz.prog n_F22 F22_sh F22_fo F22 :=
 fn_ok (E := F22_E) (F22_Eok) (told := F22_told) (fl := []) (c := bodyOf fn_F22) (s := F22_sh) (l := F22_fo) (tree := F22_t) fnat_F22 (by kernel_rfl) (by kernel_rfl) (by kernel_rfl) (loopsOK_of (ls := [loopAt (bodyOf fn_F22) [0]]) (by kernel_rfl) ⟨.inr ⟨_, by kernel_rfl, F22_L2_ok⟩, trivial⟩) (fun v => by kernel_rfl)
def F117_sh : FSh := ⟨[(.one (.si .i64)), (.one (.si .i64)), (.one (.si .i64))], []⟩
def F117_fo : List FO := [⟨[(.one .sb)], []⟩]
noncomputable def F117_t : (Int × Int × Int) → T Bool := fun (n, lo, hi) =>
 (.test (decide (n ≥ lo))
 (.ret (decide (n ≤ hi)))
 (.ret false))
noncomputable def F117 (v) := (F117_t v).run
noncomputable def F117_E : TEnv := E0
theorem F117_Eok : (F117_E).OK := E0ok
noncomputable def F117_told : Nat → Option SealT := fun id => none
theorem F117_ok : FOK Tryz.prog n_F117 F117_sh F117_fo F117 :=
 fn_ok (E := F117_E) (F117_Eok) (told := F117_told) (fl := []) (c := bodyOf fn_F117) (s := F117_sh) (l := F117_fo) (tree := F117_t) fnat_F117 (by kernel_rfl) (by kernel_rfl) (by kernel_rfl) (loopsOK_of (ls := []) (by kernel_rfl) trivial) (fun v => by kernel_rfl)
theorem F117_eq (n low high : Int) : F117 (n, low, high) = some (inB low high n) := by
 simp only [F117, F117_t, T.run, ge_iff_le, decide_eq_true_eq, inB]
 by_cases h : low ≤ n <;> simp [h]
def F118_sh : FSh := ⟨[(.one (.si .i64))], []⟩
def F118_fo : List FO := [⟨[(.one .sb)], []⟩]
noncomputable def F118_t : Int → T Bool := fun n =>
 (.sub (F117 (n, ((3 : Int), (12 : Int)))) fun z0 =>
 (.ret z0))
noncomputable def F118 (v) := (F118_t v).run
noncomputable def F118_E : TEnv := (E0.add1 n_F117 F117_sh F117_fo F117)
theorem F118_Eok : (F118_E).OK := (E0ok.add1 F117_ok)
noncomputable def F118_told : Nat → Option SealT := fun id => none
theorem F118_ok : FOK Tryz.prog n_F118 F118_sh F118_fo F118 :=
 fn_ok (E := F118_E) (F118_Eok) (told := F118_told) (fl := []) (c := bodyOf fn_F118) (s := F118_sh) (l := F118_fo) (tree := F118_t) fnat_F118 (by kernel_rfl) (by kernel_rfl) (by kernel_rfl) (loopsOK_of (ls := []) (by kernel_rfl) trivial) (fun v => by kernel_rfl)
def F102_sh : FSh := ⟨[(.one (.sl (.int .i64) false false)), (.one (.si .i64)), (.one (.si .i64))], []⟩
def F102_L2_sh : LSh := ⟨(fun ex => match ex with | .norm => [(1, none), (2, none), (9, none), (10, none), (11, none)] | .exit i => if i = 0 then [] else [] | .ret => [(6, none)]), [(1, (.one (.si .i64))), (2, (.one (.si .i64))), (9, (.one (.sl (.int .i64) false false))), (10, (.one (.si .i64))), (11, (.one (.si .i64)))], [], [⟨.ret, [(6, (.one .sb))], []⟩, ⟨(.exit 0), [], []⟩], [], []⟩
noncomputable def F102_L2_step : (Int × Int × List (Int) × Int × Int) → T ((Int × Int × List (Int) × Int × Int) ⊕ (Bool ⊕ Unit)) := fun (lo, hi, t9, t10, t11) =>
 (.test (decide (t11 < t10))
 (.test (decide ((0 ≤ t11) ∧ (t11 < (t9.length : Int))))
 (.sub (t9[(Int.toNat t11)]?) fun z0 =>
 (.sub (F117 (z0, (lo, hi))) fun z1 =>
 (.test (! z1)
 (.ret (Sum.inr (Sum.inl false)))
 (.ret (Sum.inl (lo, (hi, (t9, (t10, (w64 (t11 + 1)))))))))))
 .fail)
 (.ret (Sum.inr (Sum.inr ()))))
noncomputable def F102_L2 (v) := loopO (fun v => (F102_L2_step v).run) v
def F102_fo : List FO := [⟨[(.one .sb)], []⟩]
noncomputable def F102_t : (List (Int) × Int × Int) → T Bool := fun (l, lo, hi) =>
 (.sub (F102_L2 (lo, (hi, (l, ((l.length : Int), (0 : Int)))))) fun z0 =>
 (.test (Sum.isLeft z0)
 (.sub (Sum.getLeft? z0) fun z1 =>
 (.ret z1))
 (.sub (Sum.getRight? z0) fun z2 =>
 (.ret true))))
noncomputable def F102 (v) := (F102_t v).run
noncomputable def F102_E : TEnv := (E0.add1 n_F117 F117_sh F117_fo F117)
theorem F102_Eok : (F102_E).OK := (E0ok.add1 F117_ok)
noncomputable def F102_told : Nat → Option SealT := fun id => if id = 2 then some (LSh.told F102_L2_sh 0 (F102_L2_step)) else none
theorem F102_L2_ok : ToldOK Tryz.prog 0 (loopAt (bodyOf fn_F102) [0]) (LSh.told F102_L2_sh 0 (F102_L2_step)) :=
 loop_ok (E := F102_E) (F102_Eok) (told := F102_told) (l := F102_L2_sh) (step := F102_L2_step) (loopsOK_of (ls := []) (by kernel_rfl) trivial) (by kernel_rfl) (fun v => by kernel_rfl)
theorem F102_ok : FOK Tryz.prog n_F102 F102_sh F102_fo F102 :=
 fn_ok (E := F102_E) (F102_Eok) (told := F102_told) (fl := []) (c := bodyOf fn_F102) (s := F102_sh) (l := F102_fo) (tree := F102_t) fnat_F102 (by kernel_rfl) (by kernel_rfl) (by kernel_rfl) (loopsOK_of (ls := [loopAt (bodyOf fn_F102) [0]]) (by kernel_rfl) ⟨.inr ⟨_, by kernel_rfl, F102_L2_ok⟩, trivial⟩) (fun v => by kernel_rfl)
theorem F102_eq (l : List Int) (lo hi : Int) (hl : l.length < 4611686018427387904) : F102 (l, lo, hi) = some (l.all (inB lo hi)) := by
 have h := loop_any (step := fun v => (F102_L2_step v).run) (xs := l) (fun n => !inB lo hi n) (fun k => (lo, hi, l, (l.length : Int), (k : Int))) (.inl false) (.inr ())
  (fun k x hx => by
   have hk := getElem?_lt hx
   simp only [F102_L2_step, T.run, F117_eq, Option.bind_some, Int.toNat_natCast, hx]
   rw [w64_id (by omega) (by omega)]
   cases inB lo hi x <;> simp [hk])
  (by simp [F102_L2_step, T.run])
 simp only [F102, F102_t, T.run, F102_L2]
 simp only [Int.natCast_zero] at h
 rw [h, ← all_any]
 cases hb : l.any (fun n => !inB lo hi n) <;> simp
def F80_sh : FSh := ⟨[(.one (.si .i64)), (.one (.si .i64))], []⟩
def F80_fo : List FO := [⟨[(.one (.si .i64))], []⟩]
noncomputable def F80_t : (Int × Int) → T Int := fun (a, b) =>
 (.test (decide (a < b))
 (.ret a)
 (.ret b))
noncomputable def F80 (v) := (F80_t v).run
noncomputable def F80_E : TEnv := E0
theorem F80_Eok : (F80_E).OK := E0ok
noncomputable def F80_told : Nat → Option SealT := fun id => none
theorem F80_ok : FOK Tryz.prog n_F80 F80_sh F80_fo F80 :=
 fn_ok (E := F80_E) (F80_Eok) (told := F80_told) (fl := []) (c := bodyOf fn_F80) (s := F80_sh) (l := F80_fo) (tree := F80_t) fnat_F80 (by kernel_rfl) (by kernel_rfl) (by kernel_rfl) (loopsOK_of (ls := []) (by kernel_rfl) trivial) (fun v => by kernel_rfl)
theorem least_val (a b : Int) : F80 (a, b) = some (min a b) := by
 rw [F80, F80_t]
 simp only [T.run_test, T.run_ret]
 split <;> (rename_i hh; simp at hh; congr 1; omega)
def mx2 (m z : Int) : Int := if m > z then m else z
def F88_sh : FSh := ⟨[(.one (.si .i64)), (.one (.si .i64))], []⟩
def F88_fo : List FO := [⟨[(.one (.si .i64))], []⟩]
noncomputable def F88_t : (Int × Int) → T Int := fun (a, b) =>
 (.test (decide (a > b))
 (.ret a)
 (.ret b))
noncomputable def F88 (v) := (F88_t v).run
noncomputable def F88_E : TEnv := E0
theorem F88_Eok : (F88_E).OK := E0ok
noncomputable def F88_told : Nat → Option SealT := fun id => none
theorem F88_ok : FOK Tryz.prog n_F88 F88_sh F88_fo F88 :=
 fn_ok (E := F88_E) (F88_Eok) (told := F88_told) (fl := []) (c := bodyOf fn_F88) (s := F88_sh) (l := F88_fo) (tree := F88_t) fnat_F88 (by kernel_rfl) (by kernel_rfl) (by kernel_rfl) (loopsOK_of (ls := []) (by kernel_rfl) trivial) (fun v => by kernel_rfl)
theorem F88_eq (a b : Int) : F88 (a, b) = some (mx2 a b) := by
 rw [F88, F88_t, T.run_test]
 unfold mx2
 by_cases h : a > b
 ·rw [if_pos (decide_eq_true h), if_pos h]; rfl
 ·rw [if_neg (by rw [decide_eq_true_eq]; exact h), if_neg h]; rfl
abbrev Dg := Int × Int
def nbB (n i : Nat) : Nat := (i + n - 1) % n
def nbC (n i : Nat) : Nat := (i + 1) % n
def decAt (l : List Int) (p : Nat) : List Int := l.set p (w64 (l.getD p 0 - 1))
def cutL (l : List Int) (i : Nat) : List Int := (decAt (decAt l (nbB l.length i)) (nbC l.length i)).eraseIdx i
def cutD (names : List Int) (i : Nat) : Dg :=
 (min (names.getD (nbB names.length i) 0) (names.getD (nbC names.length i) 0), max (names.getD (nbB names.length i) 0) (names.getD (nbC names.length i) 0))
def ear (l : List Int) : Option Nat := l.findIdx? (fun x => (1 : Int) == x)
def okC (l : List Int) (i : Nat) : Bool := decide (1 ≤ w64 (l.getD (nbB l.length i) 0 - 1) ∧ 1 ≤ w64 (l.getD (nbC l.length i) 0 - 1))
def tri : Nat → List Int → List Int → Option (List Dg)
 | 0, l, _ => if l = [1, 1, 1] then some [] else none
 | k + 1, l, names => match ear l with
  | none => none
  | some i => (tri k (cutL l i) (names.eraseIdx i)).map (cutD names i :: ·)
def triS : Nat → List Int → List Int → Option (List Dg)
 | 0, l, _ => if l = [1, 1, 1] then some [] else none
 | k + 1, l, names => match ear l with
  | none => none
  | some i => if okC l i then (triS k (cutL l i) (names.eraseIdx i)).map (cutD names i :: ·) else none
def cntD (d : Dg) (m : Int) : Int := (if d.1 = m then 1 else 0) + (if d.2 = m then 1 else 0)
def cnt (ds : List Dg) (m : Int) : Int := ds.foldr (fun d s => cntD d m + s) 0
def crossD (d e : Dg) : Bool := (decide (d.1 < e.1) && decide (e.1 < d.2) && decide (d.2 < e.2)) || (decide (e.1 < d.1) && decide (d.1 < e.2) && decide (e.2 < d.2))
def Ends (names : List Int) (d : Dg) : Prop := d.1 ∈ names ∧ d.2 ∈ names ∧ d.1 < d.2 ∧ (∃ m ∈ names, d.1 < m ∧ m < d.2) ∧ (∃ m ∈ names, m < d.1 ∨ d.2 < m)
def Apart (d e : Dg) : Prop := d ≠ e ∧ crossD d e = false
def Good (names : List Int) (ds : List Dg) : Prop := (∀ d ∈ ds, Ends names d) ∧ ds.Pairwise Apart
theorem nb_facts {n i : Nat} (hn : 3 ≤ n) (hi : i < n) : nbB n i < n ∧ nbC n i < n ∧ nbB n i ≠ i ∧ nbC n i ≠ i ∧ nbB n i ≠ nbC n i ∧
  ((i = 0 ∧ nbB n i = n - 1 ∧ nbC n i = 1) ∨ (i = n - 1 ∧ nbB n i = n - 2 ∧ nbC n i = 0) ∨ (0 < i ∧ i < n - 1 ∧ nbB n i = i - 1 ∧ nbC n i = i + 1)) := by
 unfold nbB nbC
 by_cases h0 : i = 0
 ·subst h0
  rw [Nat.mod_eq_of_lt (by omega), Nat.mod_eq_of_lt (by omega)]
  omega
 ·rw [show i + n - 1 = (i - 1) + n by omega, Nat.add_mod_right, Nat.mod_eq_of_lt (by omega)]
  by_cases h1 : i = n - 1
  ·subst h1
   rw [show n - 1 + 1 = n by omega, Nat.mod_self]
   omega
  ·rw [Nat.mod_eq_of_lt (by omega)]
   omega
theorem ear_lt {l : List Int} {i : Nat} (h : ear l = some i) : i < l.length ∧ l[i]? = some 1 := by
 obtain ⟨h1, h2, _⟩ := List.findIdx?_eq_some_iff_getElem.1 h
 refine ⟨h1, ?_⟩
 rw [List.getElem?_eq_getElem h1]
 simp at h2
 rw [← h2]
theorem decAt_length (l : List Int) (p : Nat) : (decAt l p).length = l.length := by simp [decAt]
theorem cutL_length {l : List Int} {i : Nat} (h : i < l.length) : (cutL l i).length = l.length - 1 := by
 unfold cutL
 rw [List.length_eraseIdx, decAt_length, decAt_length, if_pos h]
def cutV (l : List Int) (i p : Nat) : Int := if p = nbB l.length i ∨ p = nbC l.length i then w64 (l.getD p 0 - 1) else l.getD p 0
theorem dec2_get {l : List Int} {i p : Nat} (hn : 3 ≤ l.length) (hi : i < l.length) (hp : p < l.length) :
  (decAt (decAt l (nbB l.length i)) (nbC l.length i))[p]? = some (cutV l i p) := by
 obtain ⟨h1, h2, h3, h4, h5, _⟩ := nb_facts hn hi
 unfold decAt cutV
 by_cases e1 : nbC l.length i = p
 ·subst e1
  rw [List.getElem?_set_self (by simpa using h2), if_pos (.inr rfl)]
  simp only [List.getD_eq_getElem?_getD, List.getElem?_set_ne h5]
 ·rw [List.getElem?_set_ne e1]
  by_cases e2 : nbB l.length i = p
  ·subst e2
   rw [List.getElem?_set_self h1, if_pos (.inl rfl)]
  ·rw [List.getElem?_set_ne e2, if_neg (by omega), List.getD_eq_getElem?_getD, List.getElem?_eq_getElem hp]
   rfl
theorem cutL_get {l : List Int} {i p : Nat} (hn : 3 ≤ l.length) (hi : i < l.length) (hp : p < l.length) (hpi : p ≠ i) :
  (cutL l i)[if p < i then p else p - 1]? = some (cutV l i p) := by
 unfold cutL
 rw [List.getElem?_eraseIdx]
 by_cases h : p < i
 ·simp only [h, if_true]
  exact dec2_get hn hi hp
 ·simp only [h, if_false]
  rw [if_neg (by omega), show p - 1 + 1 = p by omega]
  exact dec2_get hn hi hp
theorem erase_get {X : Type} {names : List X} {i p : Nat} (hpi : p ≠ i) : (names.eraseIdx i)[if p < i then p else p - 1]? = names[p]? := by
 rw [List.getElem?_eraseIdx]
 by_cases h : p < i
 ·simp [h]
 ·simp only [h, if_false]
  rw [if_neg (by omega), show p - 1 + 1 = p by omega]
theorem erase_mem {X : Type} {names : List X} {i : Nat} {m : X} (h : m ∈ names.eraseIdx i) : ∃ p, p ≠ i ∧ names[p]? = some m := by
 obtain ⟨j, hj1, hj2⟩ := List.mem_eraseIdx_iff_getElem?.1 h
 exact ⟨j, hj1, hj2⟩
theorem sorted_get {names : List Int} (hs : names.Pairwise (· < ·)) {p q : Nat} (h : p < q) {a b : Int} (ha : names[p]? = some a) (hb : names[q]? = some b) : a < b := by
 obtain ⟨h1, e1⟩ := List.getElem?_eq_some_iff.1 ha
 obtain ⟨h2, e2⟩ := List.getElem?_eq_some_iff.1 hb
 rw [← e1, ← e2]
 exact List.pairwise_iff_getElem.1 hs p q h1 h2 h
theorem sorted_inj {names : List Int} (hs : names.Pairwise (· < ·)) {p q : Nat} {a : Int} (ha : names[p]? = some a) (hb : names[q]? = some a) : p = q := by
 rcases Nat.lt_trichotomy p q with h | h | h
 ·have := sorted_get hs h ha hb; omega
 ·exact h
 ·have := sorted_get hs h hb ha; omega
theorem getD_some {X : Type} {l : List X} {p : Nat} {a d : X} (h : l[p]? = some a) : l.getD p d = a := by rw [List.getD_eq_getElem?_getD, h]; rfl
theorem cutD_facts {names : List Int} (hs : names.Pairwise (· < ·)) {i : Nat} (hn : 4 ≤ names.length) (hi : i < names.length) :
  Ends names (cutD names i) ∧ (cutD names i).1 ∈ names.eraseIdx i ∧ (cutD names i).2 ∈ names.eraseIdx i ∧
  ((∀ m ∈ names.eraseIdx i, ¬ ((cutD names i).1 < m ∧ m < (cutD names i).2)) ∨ (∀ m ∈ names.eraseIdx i, ¬ (m < (cutD names i).1 ∨ (cutD names i).2 < m))) ∧
  ∀ p m, names[p]? = some m → cntD (cutD names i) m = if p = nbB names.length i ∨ p = nbC names.length i then 1 else 0 := by
 obtain ⟨h1, h2, h3, h4, h5, h6⟩ := nb_facts (by omega : 3 ≤ names.length) hi
 have gb := List.getElem?_eq_getElem h1
 have gc := List.getElem?_eq_getElem h2
 have gi := List.getElem?_eq_getElem hi
 have hmem : ∀ p, p ≠ i → ∀ m, names[p]? = some m → m ∈ names.eraseIdx i := fun p hp m hm => List.mem_eraseIdx_iff_getElem?.2 ⟨p, hp, hm⟩
 have mb := hmem _ h3 _ gb
 have mc := hmem _ h4 _ gc
 have hD : cutD names i = (min names[nbB names.length i] names[nbC names.length i], max names[nbB names.length i] names[nbC names.length i]) := by
  unfold cutD; rw [getD_some gb, getD_some gc]
 have hE : ∀ {m}, m ∈ names.eraseIdx i → ∃ p, p ≠ i ∧ names[p]? = some m := fun h => erase_mem h
 have g0 := List.getElem?_eq_getElem (show 0 < names.length by omega)
 have g1 := List.getElem?_eq_getElem (show 1 < names.length by omega)
 have g2 := List.getElem?_eq_getElem (show 2 < names.length by omega)
 have gl := List.getElem?_eq_getElem (show names.length - 1 < names.length by omega)
 have key : ∀ a b : Int, (names[nbB names.length i] = a ∧ names[nbC names.length i] = b ∨ names[nbB names.length i] = b ∧ names[nbC names.length i] = a) → a < b → (cutD names i) = (a, b) := by
  intro a b h hab
  rw [hD]
  rcases h with ⟨e1, e2⟩ | ⟨e1, e2⟩ <;> rw [e1, e2] <;> simp only [Prod.mk.injEq] <;> constructor <;> omega
 have hcnt : ∀ p m, names[p]? = some m → cntD (cutD names i) m = if p = nbB names.length i ∨ p = nbC names.length i then 1 else 0 := by
  intro p m hm
  have e1 : p = nbB names.length i ↔ names[nbB names.length i] = m := ⟨fun e => by subst e; rw [gb] at hm; exact Option.some.inj hm, fun e => sorted_inj hs hm (by rw [gb, e])⟩
  have e2 : p = nbC names.length i ↔ names[nbC names.length i] = m := ⟨fun e => by subst e; rw [gc] at hm; exact Option.some.inj hm, fun e => sorted_inj hs hm (by rw [gc, e])⟩
  rw [hD]
  unfold cntD
  simp only []
  by_cases c1 : p = nbB names.length i
  ·have c2 : ¬ p = nbC names.length i := by omega
   have d1 := e1.1 c1
   have d2 : ¬ names[nbC names.length i] = m := fun e => c2 (e2.2 e)
   simp only [c1, true_or, if_true]
   split <;> split <;> omega
  ·have d1 : ¬ names[nbB names.length i] = m := fun e => c1 (e1.2 e)
   by_cases c2 : p = nbC names.length i
   ·have d2 := e2.1 c2
    simp only [c2, or_true, if_true]
    split <;> split <;> omega
   ·have d2 : ¬ names[nbC names.length i] = m := fun e => c2 (e2.2 e)
    rw [if_neg (by omega : ¬ (p = nbB names.length i ∨ p = nbC names.length i))]
    split <;> split <;> omega
 rcases h6 with ⟨hi0, hb, hc⟩ | ⟨hi0, hb, hc⟩ | ⟨hi0, hi1, hb, hc⟩
 ·have lt1 := sorted_get hs (show nbC names.length i < nbB names.length i by omega) gc gb
  have e := key _ _ (.inr ⟨rfl, rfl⟩) lt1
  rw [e]
  refine ⟨⟨List.mem_of_getElem? gc, List.mem_of_getElem? gb, lt1, ⟨_, List.mem_of_getElem? g2, sorted_get hs (by omega) gc g2, sorted_get hs (by omega) g2 gb⟩, ⟨_, List.mem_of_getElem? g0, .inl (sorted_get hs (by omega) g0 gc)⟩⟩, mc, mb, .inr ?_, ?_⟩
  ·intro m hm
   obtain ⟨p, hp, hpm⟩ := hE hm
   have := getElem?_lt hpm
   rintro (h | h)
   ·have : ¬ nbC names.length i ≤ p := by
     intro hle
     rcases Nat.lt_or_eq_of_le hle with h' | h'
     ·have := sorted_get hs h' gc hpm; simp only [] at h; omega
     ·subst h'; rw [gc] at hpm; have := Option.some.inj hpm; simp only [] at h; omega
    omega
   ·have : ¬ p ≤ nbB names.length i := by
     intro hle
     rcases Nat.lt_or_eq_of_le hle with h' | h'
     ·have := sorted_get hs h' hpm gb; simp only [] at h; omega
     ·subst h'; rw [gb] at hpm; have := Option.some.inj hpm; simp only [] at h; omega
    omega
  ·rw [← e]; exact hcnt
 ·have lt1 := sorted_get hs (show nbC names.length i < nbB names.length i by omega) gc gb
  have e := key _ _ (.inr ⟨rfl, rfl⟩) lt1
  rw [e]
  refine ⟨⟨List.mem_of_getElem? gc, List.mem_of_getElem? gb, lt1, ⟨_, List.mem_of_getElem? g1, sorted_get hs (by omega) gc g1, sorted_get hs (by omega) g1 gb⟩, ⟨_, List.mem_of_getElem? gl, .inr (sorted_get hs (by omega) gb gl)⟩⟩, mc, mb, .inr ?_, ?_⟩
  ·intro m hm
   obtain ⟨p, hp, hpm⟩ := hE hm
   have := getElem?_lt hpm
   rintro (h | h)
   ·have : ¬ nbC names.length i ≤ p := by
     intro hle
     rcases Nat.lt_or_eq_of_le hle with h' | h'
     ·have := sorted_get hs h' gc hpm; simp only [] at h; omega
     ·subst h'; rw [gc] at hpm; have := Option.some.inj hpm; simp only [] at h; omega
    omega
   ·have : ¬ p ≤ nbB names.length i := by
     intro hle
     rcases Nat.lt_or_eq_of_le hle with h' | h'
     ·have := sorted_get hs h' hpm gb; simp only [] at h; omega
     ·subst h'; rw [gb] at hpm; have := Option.some.inj hpm; simp only [] at h; omega
    omega
  ·rw [← e]; exact hcnt
 ·have lt1 := sorted_get hs (show nbB names.length i < nbC names.length i by omega) gb gc
  have e := key _ _ (.inl ⟨rfl, rfl⟩) lt1
  rw [e]
  refine ⟨⟨List.mem_of_getElem? gb, List.mem_of_getElem? gc, lt1, ⟨_, List.mem_of_getElem? gi, sorted_get hs (by omega) gb gi, sorted_get hs (by omega) gi gc⟩, ?_⟩, mb, mc, .inl ?_, ?_⟩
  ·by_cases hz : 0 < nbB names.length i
   ·exact ⟨_, List.mem_of_getElem? g0, .inl (sorted_get hs hz g0 gb)⟩
   ·exact ⟨_, List.mem_of_getElem? gl, .inr (sorted_get hs (by omega) gc gl)⟩
  ·intro m hm
   obtain ⟨p, hp, hpm⟩ := hE hm
   have := getElem?_lt hpm
   rintro ⟨ha, hb'⟩
   have c1 : nbB names.length i < p := by
    rcases Nat.lt_trichotomy (nbB names.length i) p with h' | h' | h'
    ·exact h'
    ·subst h'; rw [gb] at hpm; have := Option.some.inj hpm; simp only [] at ha; omega
    ·have := sorted_get hs h' hpm gb; simp only [] at ha; omega
   have c2 : p < nbC names.length i := by
    rcases Nat.lt_trichotomy p (nbC names.length i) with h' | h' | h'
    ·exact h'
    ·subst h'; rw [gc] at hpm; have := Option.some.inj hpm; simp only [] at hb'; omega
    ·have := sorted_get hs h' gc hpm; simp only [] at hb'; omega
   omega
  ·rw [← e]; exact hcnt
theorem Ends.mono {names names' : List Int} (h : ∀ m ∈ names', m ∈ names) {d : Dg} (hd : Ends names' d) : Ends names d := by
 obtain ⟨a, b, c, ⟨m, hm, hm'⟩, ⟨q, hq, hq'⟩⟩ := hd
 exact ⟨h _ a, h _ b, c, ⟨m, h _ hm, hm'⟩, ⟨q, h _ hq, hq'⟩⟩
theorem tri_good : ∀ (k : Nat) (l names : List Int) (ds : List Dg), names.Pairwise (· < ·) → l.length = k + 3 → names.length = k + 3 → tri k l names = some ds → ds.length = k ∧ Good names ds
 | 0, l, names, ds, hs, hl, hn, h => by
  unfold tri at h
  split at h
  ·cases h; exact ⟨rfl, by simp, by simp⟩
  ·cases h
 | k + 1, l, names, ds, hs, hl, hn, h => by
  unfold tri at h
  cases he : ear l with
  | none => rw [he] at h; cases h
  | some i =>
   rw [he] at h
   simp only [] at h
   obtain ⟨hi, _⟩ := ear_lt he
   obtain ⟨ds', h1, h2⟩ := Option.map_eq_some_iff.1 h
   subst h2
   have hE : (names.eraseIdx i).length = k + 3 := by rw [List.length_eraseIdx, if_pos (by omega)]; omega
   have hsub : ∀ m ∈ names.eraseIdx i, m ∈ names := fun m hm => List.mem_of_mem_eraseIdx hm
   obtain ⟨g1, g2, g3⟩ := tri_good k (cutL l i) (names.eraseIdx i) ds' (hs.sublist (List.eraseIdx_sublist ..)) (by rw [cutL_length hi]; omega) hE h1
   obtain ⟨f1, f2, f3, f4, f5⟩ := cutD_facts hs (by omega) (show i < names.length by omega)
   refine ⟨by simp [g1], fun d hd => ?_, ?_⟩
   ·rcases List.mem_cons.1 hd with rfl | hd
    ·exact f1
    ·exact (g2 d hd).mono hsub
   ·refine List.pairwise_cons.2 ⟨fun e he' => ?_, g3⟩
    obtain ⟨q1, q2, q3, ⟨m, q4, q5⟩, ⟨m', q6, q7⟩⟩ := g2 e he'
    generalize cutD names i = d at *
    constructor
    ·rintro rfl
     rcases f4 with f4 | f4
     ·exact f4 m q4 q5
     ·exact f4 m' q6 q7
    ·unfold crossD
     rcases f4 with f4 | f4
     ·have a1 := f4 _ q1
      have a2 := f4 _ q2
      simp
      constructor <;> intro h1 h2 <;> omega
     ·have a1 := f4 _ q1
      have a2 := f4 _ q2
      simp
      constructor <;> intro h1 h2 <;> omega
theorem cnt_nn (ds : List Dg) (m : Int) : 0 ≤ cnt ds m ∧ cnt ds m ≤ 2 * ds.length := by
 induction ds with
 | nil => simp [cnt]
 | cons d t ih =>
  have : cnt (d :: t) m = cntD d m + cnt t m := rfl
  rw [this, List.length_cons]
  unfold cntD
  split <;> split <;> omega
theorem cnt_zero (ds : List Dg) (m : Int) (h : ∀ d ∈ ds, d.1 ≠ m ∧ d.2 ≠ m) : cnt ds m = 0 := by
 induction ds with
 | nil => simp [cnt]
 | cons d t ih =>
  have e : cnt (d :: t) m = cntD d m + cnt t m := rfl
  have := h d (by simp)
  rw [e, ih (fun d hd => h d (by simp [hd]))]
  unfold cntD
  rw [if_neg this.1, if_neg this.2]
  rfl
def Cnts (l names : List Int) (ds : List Dg) : Prop := ∀ (p : Nat) (v m : Int), l[p]? = some v → names[p]? = some m → v = 1 + cnt ds m
theorem good_ne {names : List Int} {ds : List Dg} (g : Good names ds) {m : Int} (h : m ∉ names) : cnt ds m = 0 :=
 cnt_zero ds m fun d hd => ⟨fun e => h (e ▸ (g.1 d hd).1), fun e => h (e ▸ (g.1 d hd).2.1)⟩
theorem cut_cnts {k : Nat} {l names : List Int} {i : Nat} {ds : List Dg} (hs : names.Pairwise (· < ·)) (hl : l.length = k + 4) (hn : names.length = k + 4) (hi : ear l = some i) (g : Good (names.eraseIdx i) ds)
  (hw : ∀ p, p < l.length → w64 (l.getD p 0 - 1) = l.getD p 0 - 1) : Cnts (cutL l i) (names.eraseIdx i) ds ↔ Cnts l names (cutD names i :: ds) := by
 obtain ⟨hil, hi1⟩ := ear_lt hi
 obtain ⟨h1, h2, h3, h4, h5, h6⟩ := nb_facts (by omega : 3 ≤ l.length) hil
 obtain ⟨f1, f2, f3, f4, f5⟩ := cutD_facts hs (by omega) (show i < names.length by omega)
 have hcv : ∀ p m, p < l.length → names[p]? = some m → cutV l i p = l.getD p 0 - cntD (cutD names i) m := by
  intro p m hp hm
  rw [f5 p m hm, hn, ← hl]
  unfold cutV
  rw [hw p hp]
  split <;> simp
 constructor
 ·intro h p v m hv hm
  have e : cnt (cutD names i :: ds) m = cntD (cutD names i) m + cnt ds m := rfl
  rw [e]
  have hp := getElem?_lt hv
  by_cases hpi : p = i
  ·subst hpi
   rw [hi1] at hv
   cases hv
   have := f5 p m hm
   rw [hn, ← hl, if_neg (by omega)] at this
   rw [this, good_ne g]
   ·rfl
   ·intro hmem
    obtain ⟨q, hq, hqm⟩ := erase_mem hmem
    exact hq (sorted_inj hs hqm hm)
  ·have := h (if p < i then p else p - 1) (cutV l i p) m (cutL_get (by omega) hil hp hpi) (by rw [erase_get hpi]; exact hm)
   rw [hcv p m hp hm, getD_some hv] at this
   omega
 ·intro h p' v m hv hm
  have hp' := getElem?_lt hv
  rw [cutL_length hil] at hp'
  obtain ⟨p, hpi, hpp, hp⟩ : ∃ p, p ≠ i ∧ (if p < i then p else p - 1) = p' ∧ p < l.length := by
   by_cases hh : p' < i
   ·exact ⟨p', by omega, by rw [if_pos hh], by omega⟩
   ·exact ⟨p' + 1, by omega, by rw [if_neg (by omega)]; omega, by omega⟩
  rw [← hpp] at hv hm
  rw [cutL_get (by omega) hil hp hpi] at hv
  rw [erase_get hpi] at hm
  cases hv
  rw [hcv p m hp hm]
  have := h p (l.getD p 0) m (by rw [List.getElem?_eq_getElem hp, List.getD_eq_getElem?_getD, List.getElem?_eq_getElem hp]; rfl) hm
  have e : cnt (cutD names i :: ds) m = cntD (cutD names i) m + cnt ds m := rfl
  omega
theorem triS_tri : ∀ (k : Nat) (l names : List Int) (ds : List Dg), names.Pairwise (· < ·) → l.length = k + 3 → names.length = k + 3 → (∀ v ∈ l, 1 ≤ v ∧ v ≤ 4611686018427387904) → triS k l names = some ds → tri k l names = some ds ∧ Cnts l names ds
 | 0, l, names, ds, hs, hl, hn, hb, h => by
  unfold triS at h
  refine ⟨by unfold tri; exact h, ?_⟩
  split at h
  ·rename_i e
   cases h
   intro p v m hv hm
   have := List.mem_of_getElem? hv
   rw [e] at this
   simp at this
   rw [this]; rfl
  ·cases h
 | k + 1, l, names, ds, hs, hl, hn, hb, h => by
  unfold triS at h
  cases he : ear l with
  | none => rw [he] at h; cases h
  | some i =>
   rw [he] at h
   simp only [] at h
   split at h
   ·rename_i hok
    obtain ⟨hi, _⟩ := ear_lt he
    obtain ⟨n1, n2, n3, n4, n5, n6⟩ := nb_facts (by omega : 3 ≤ l.length) hi
    obtain ⟨ds', h1, h2⟩ := Option.map_eq_some_iff.1 h
    subst h2
    have hE : (names.eraseIdx i).length = k + 3 := by rw [List.length_eraseIdx, if_pos (by omega)]; omega
    have hgd : ∀ p, p < l.length → 1 ≤ l.getD p 0 ∧ l.getD p 0 ≤ 4611686018427387904 := by
     intro p hp
     rw [List.getD_eq_getElem?_getD, List.getElem?_eq_getElem hp]
     exact hb _ (List.getElem_mem hp)
    have hw : ∀ p, p < l.length → w64 (l.getD p 0 - 1) = l.getD p 0 - 1 := by
     intro p hp
     have := hgd p hp
     exact w64_id (by omega) (by omega)
    have hb' : ∀ v ∈ cutL l i, 1 ≤ v ∧ v ≤ 4611686018427387904 := by
     intro v hv
     obtain ⟨p', hp'⟩ := List.mem_iff_getElem?.1 hv
     have hlt := getElem?_lt hp'
     rw [cutL_length hi] at hlt
     obtain ⟨p, hpi, hpp, hp⟩ : ∃ p, p ≠ i ∧ (if p < i then p else p - 1) = p' ∧ p < l.length := by
      by_cases hh : p' < i
      ·exact ⟨p', by omega, by rw [if_pos hh], by omega⟩
      ·exact ⟨p' + 1, by omega, by rw [if_neg (by omega)]; omega, by omega⟩
     rw [← hpp, cutL_get (by omega) hi hp hpi] at hp'
     cases hp'
     unfold okC at hok
     have hok := of_decide_eq_true hok
     have := hgd p hp
     unfold cutV
     split
     ·rename_i hh
      rcases hh with rfl | rfl
      ·refine ⟨hok.1, ?_⟩
       rw [hw _ hp]; omega
      ·refine ⟨hok.2, ?_⟩
       rw [hw _ hp]; omega
     ·exact this
    obtain ⟨g1, g2⟩ := triS_tri k (cutL l i) (names.eraseIdx i) ds' (hs.sublist (List.eraseIdx_sublist ..)) (by rw [cutL_length hi]; omega) hE hb' h1
    have g := (tri_good k _ _ _ (hs.sublist (List.eraseIdx_sublist ..)) (by rw [cutL_length hi]; omega) hE g1).2
    refine ⟨?_, (cut_cnts hs hl hn he g hw).1 g2⟩
    unfold tri
    rw [he]
    simp only []
    rw [g1]
    rfl
   ·cases h
theorem tri_triS : ∀ (k : Nat) (l names : List Int) (ds : List Dg), names.Pairwise (· < ·) → l.length = k + 3 → names.length = k + 3 → k < 1000000 → tri k l names = some ds → Cnts l names ds → triS k l names = some ds
 | 0, l, names, ds, hs, hl, hn, hk, h, hc => by
  unfold tri at h
  unfold triS
  exact h
 | k + 1, l, names, ds, hs, hl, hn, hk, h, hc => by
  have hlen := (tri_good _ _ _ _ hs hl hn h).1
  unfold tri at h
  unfold triS
  cases he : ear l with
  | none => rw [he] at h; cases h
  | some i =>
   rw [he] at h
   simp only [] at h ⊢
   obtain ⟨hi, _⟩ := ear_lt he
   obtain ⟨n1, n2, n3, n4, n5, n6⟩ := nb_facts (by omega : 3 ≤ l.length) hi
   obtain ⟨ds', h1, h2⟩ := Option.map_eq_some_iff.1 h
   subst h2
   have hE : (names.eraseIdx i).length = k + 3 := by rw [List.length_eraseIdx, if_pos (by omega)]; omega
   have g := (tri_good k _ _ _ (hs.sublist (List.eraseIdx_sublist ..)) (by rw [cutL_length hi]; omega) hE h1).2
   obtain ⟨f1, f2, f3, f4, f5⟩ := cutD_facts hs (by omega) (show i < names.length by omega)
   have hgd : ∀ p (hp : p < l.length), l.getD p 0 = 1 + (cntD (cutD names i) (names[p]'(by omega)) + cnt ds' (names[p]'(by omega))) := by
    intro p hp
    rw [List.getD_eq_getElem?_getD, List.getElem?_eq_getElem hp]
    exact hc p _ _ (List.getElem?_eq_getElem hp) (List.getElem?_eq_getElem (by omega))
   have hw : ∀ p, p < l.length → w64 (l.getD p 0 - 1) = l.getD p 0 - 1 := by
    intro p hp
    have e := hgd p hp
    have c1 := cnt_nn ds' (names[p]'(by omega))
    have c2 : cntD (cutD names i) (names[p]'(by omega)) ≤ 2 ∧ 0 ≤ cntD (cutD names i) (names[p]'(by omega)) := by unfold cntD; split <;> split <;> omega
    rw [List.length_cons] at hlen
    rw [w64_id (by omega) (by omega)]
   have hok : okC l i = true := by
    unfold okC
    refine decide_eq_true ⟨?_, ?_⟩
    ·rw [hw _ n1, hgd _ n1, f5 _ _ (List.getElem?_eq_getElem (by omega)), if_pos (.inl (by rw [hn, hl]))]
     have := cnt_nn ds' (names[nbB l.length i]'(by omega))
     omega
    ·rw [hw _ n2, hgd _ n2, f5 _ _ (List.getElem?_eq_getElem (by omega)), if_pos (.inr (by rw [hn, hl]))]
     have := cnt_nn ds' (names[nbC l.length i]'(by omega))
     omega
   rw [if_pos hok, tri_triS k _ _ _ (hs.sublist (List.eraseIdx_sublist ..)) (by rw [cutL_length hi]; omega) hE (by omega) h1 ((cut_cnts hs hl hn he g hw).2 hc)]
   rfl
def ltD (d e : Dg) : Bool := decide (d.1 < e.1 ∨ d.1 = e.1 ∧ d.2 < e.2)
def leD (d e : Dg) : Bool := !ltD e d
def cmpD (d e : Dg) : Int := if ltD d e then -1 else if ltD e d then 1 else 0
theorem leD_iff {d e : Dg} : leD d e = true ↔ d.1 < e.1 ∨ d.1 = e.1 ∧ d.2 ≤ e.2 := by
 unfold leD ltD; simp; omega
theorem ltD_iff {d e : Dg} : ltD d e = true ↔ d.1 < e.1 ∨ d.1 = e.1 ∧ d.2 < e.2 := by
 unfold ltD; simp
theorem leD_trans {a b c : Dg} (h1 : leD a b = true) (h2 : leD b c = true) : leD a c = true := by
 rw [leD_iff] at *; omega
theorem leD_anti {a b : Dg} (h1 : leD a b = true) (h2 : leD b a = true) : a = b := by
 rw [leD_iff] at *
 exact Prod.ext (by omega) (by omega)
theorem leD_of_lt {a b : Dg} (h : ltD a b = true) : leD a b = true := by
 rw [leD_iff]; rw [ltD_iff] at h; omega
theorem leD_of_not {a b : Dg} (h : ltD a b = false) : leD b a = true := by unfold leD; rw [h]; rfl
theorem ltD_of {a b : Dg} (h : leD a b = true) (hne : a ≠ b) : ltD a b = true := by
 rw [leD_iff] at h; rw [ltD_iff]
 rcases h with h | ⟨h1, h2⟩
 ·exact .inl h
 ·refine .inr ⟨h1, ?_⟩
  rcases Int.lt_or_lt_of_ne (fun e => hne (Prod.ext h1 e)) with h | h <;> omega
def SortedD (l : List Dg) : Prop := l.Pairwise fun a b => leD a b = true
theorem sorted_unique {l m : List Dg} (h1 : SortedD l) (h2 : SortedD m) (hp : l.Perm m) : l = m :=
 List.Perm.eq_of_pairwise (fun a b _ _ h1 h2 => leD_anti h1 h2) h1 h2 hp
def insD (d : Dg) (l : List Dg) : List Dg := l.takeWhile (ltD · d) ++ d :: l.dropWhile (ltD · d)
theorem insD_perm (d : Dg) (l : List Dg) : (insD d l).Perm (d :: l) := by
 unfold insD
 have h := List.perm_middle (a := d) (l₁ := l.takeWhile (ltD · d)) (l₂ := l.dropWhile (ltD · d))
 rwa [List.takeWhile_append_dropWhile] at h
theorem insD_sorted (d : Dg) : ∀ {l : List Dg}, SortedD l → SortedD (insD d l)
 | [], _ => by simp [insD, SortedD]
 | x :: t, h => by
  obtain ⟨h1, h2⟩ := List.pairwise_cons.1 h
  unfold insD
  cases hx : ltD x d with
  | true =>
   rw [List.takeWhile_cons, List.dropWhile_cons]
   simp only [hx, if_true, List.cons_append]
   refine List.pairwise_cons.2 ⟨fun y hy => ?_, insD_sorted d h2⟩
   have : y ∈ d :: t := (insD_perm d t).mem_iff.1 hy
   rcases List.mem_cons.1 this with rfl | hy
   ·exact leD_of_lt hx
   ·exact h1 y hy
  | false =>
   rw [List.takeWhile_cons, List.dropWhile_cons]
   simp only [hx, Bool.false_eq_true, if_false, List.nil_append]
   refine List.pairwise_cons.2 ⟨fun y hy => ?_, h⟩
   rcases List.mem_cons.1 hy with rfl | hy
   ·exact leD_of_not hx
   ·exact leD_trans (leD_of_not hx) (h1 y hy)
def sortD (l : List Dg) : List Dg := l.foldl (fun out d => insD d out) []
theorem sortD_go : ∀ (l out : List Dg), SortedD out → SortedD (l.foldl (fun out d => insD d out) out) ∧ (l.foldl (fun out d => insD d out) out).Perm (out ++ l)
 | [], out, h => ⟨h, by simp⟩
 | d :: l, out, h => by
  obtain ⟨h1, h2⟩ := sortD_go l (insD d out) (insD_sorted d h)
  refine ⟨h1, h2.trans ?_⟩
  exact ((insD_perm d out).append_right l).trans (by simpa using (List.perm_middle (a := d) (l₁ := out) (l₂ := l)).symm)
theorem sortD_sorted (l : List Dg) : SortedD (sortD l) := (sortD_go l [] (by simp [SortedD])).1
theorem sortD_perm (l : List Dg) : (sortD l).Perm l := by have h := (sortD_go l [] (by simp [SortedD])).2; rwa [List.nil_append] at h
theorem sortD_length (l : List Dg) : (sortD l).length = l.length := (sortD_perm l).length_eq
def gD (l : List Dg) (p : Nat) : Dg := l.getD p (0, 0)
def swapD (l : List Dg) (j : Nat) : List Dg := (l.set (j + 1) (gD l j)).set j (gD l (j + 1))
def sinkD : Nat → List Dg → List Dg
 | 0, l => l
 | j + 1, l => if ltD (gD l (j + 1)) (gD l j) then sinkD j (swapD l j) else l
theorem gD_eq {l : List Dg} {p : Nat} (h : p < l.length) : gD l p = l[p] := by unfold gD; rw [List.getD_eq_getElem?_getD, List.getElem?_eq_getElem h]; rfl
theorem gD_some {l : List Dg} {p : Nat} (h : p < l.length) : l[p]? = some (gD l p) := by rw [gD_eq h, List.getElem?_eq_getElem h]
theorem swapD_length (l : List Dg) (j : Nat) : (swapD l j).length = l.length := by simp [swapD]
theorem sinkD_length : ∀ (j : Nat) (l : List Dg), (sinkD j l).length = l.length
 | 0, l => rfl
 | j + 1, l => by
  unfold sinkD
  split
  ·rw [sinkD_length, swapD_length]
  ·rfl
theorem swapD_perm {l : List Dg} {j : Nat} (h : j + 1 < l.length) : (swapD l j).Perm l := by
 unfold swapD
 rw [gD_eq h, gD_eq (by omega)]
 exact List.set_set_perm (by omega) (by omega)
theorem sinkD_perm : ∀ {j : Nat} {l : List Dg}, j < l.length → (sinkD j l).Perm l
 | 0, l, _ => .refl _
 | j + 1, l, h => by
  unfold sinkD
  split
  ·exact (sinkD_perm (by rw [swapD_length]; omega)).trans (swapD_perm h)
  ·exact .refl _
theorem swapD_get {l : List Dg} {j p : Nat} (h : j + 1 < l.length) : gD (swapD l j) p = if p = j then gD l (j + 1) else if p = j + 1 then gD l j else gD l p := by
 unfold swapD
 conv => lhs; unfold gD
 simp only [List.getD_eq_getElem?_getD]
 by_cases e1 : p = j
 ·subst e1
  rw [List.getElem?_set_self (by simp; omega), if_pos rfl]; rfl
 ·rw [List.getElem?_set_ne (fun e => e1 e.symm), if_neg e1]
  by_cases e2 : p = j + 1
  ·subst e2
   rw [List.getElem?_set_self h, if_pos rfl]; rfl
  ·rw [List.getElem?_set_ne (fun e => e2 e.symm), if_neg e2]
   unfold gD; rw [List.getD_eq_getElem?_getD]
def SUp (l : List Dg) (i : Nat) : Prop := ∀ p q, p < q → q ≤ i → leD (gD l p) (gD l q) = true
theorem sinkD_up : ∀ (j : Nat) (l : List Dg) (i : Nat), j < l.length → j ≤ i → (∀ p q, p < q → q ≤ i → p ≠ j → q ≠ j → leD (gD l p) (gD l q) = true) → (∀ q, j < q → q ≤ i → leD (gD l j) (gD l q) = true) → SUp (sinkD j l) i
 | 0, l, i, hl, hi, h1, h2 => by
  intro p q hpq hq
  by_cases e : p = 0
  ·subst e; exact h2 q hpq hq
  ·exact h1 p q hpq hq e (by omega)
 | j + 1, l, i, hl, hi, h1, h2 => by
  unfold sinkD
  cases hlt : ltD (gD l (j + 1)) (gD l j) with
  | true =>
   simp only [if_true]
   refine sinkD_up j (swapD l j) i (by rw [swapD_length]; omega) (by omega) (fun p q hpq hq hp hq' => ?_) (fun q hq hqi => ?_)
   ·rw [swapD_get hl, swapD_get hl, if_neg hp, if_neg hq']
    by_cases e1 : p = j + 1
    ·rw [if_pos e1, if_neg (by omega)]
     exact h1 j q (by omega) hq (by omega) (by omega)
    ·rw [if_neg e1]
     by_cases e2 : q = j + 1
     ·rw [if_pos e2]
      exact h1 p j (by omega) (by omega) e1 (by omega)
     ·rw [if_neg e2]
      exact h1 p q hpq hq e1 e2
   ·rw [swapD_get hl, swapD_get hl, if_pos rfl, if_neg (by omega)]
    by_cases e2 : q = j + 1
    ·rw [if_pos e2]; exact leD_of_lt hlt
    ·rw [if_neg e2]; exact h2 q (by omega) hqi
  | false =>
   simp only [Bool.false_eq_true, if_false]
   intro p q hpq hq
   by_cases e1 : p = j + 1
   ·subst e1; exact h2 q hpq hq
   ·by_cases e2 : q = j + 1
    ·subst e2
     have := leD_of_not hlt
     by_cases e3 : p = j
     ·subst e3; exact this
     ·exact leD_trans (h1 p j (by omega) (by omega) e1 (by omega)) this
    ·exact h1 p q hpq hq e1 e2
def isortD : Nat → Nat → List Dg → List Dg
 | 0, _, l => l
 | n + 1, i, l => isortD n (i + 1) (sinkD i l)
theorem isortD_spec : ∀ (n i : Nat) (l : List Dg), 0 < i → i + n = l.length → SUp l (i - 1) → SUp (isortD n i l) (l.length - 1) ∧ (isortD n i l).Perm l
 | 0, i, l, hi, hl, h => by
  refine ⟨?_, .refl _⟩
  rw [← hl]
  exact h
 | n + 1, i, l, hi, hl, h => by
  have hs := sinkD_up i l i (by omega) (Nat.le_refl _) (fun p q hpq hq hp hq' => h p q hpq (by omega)) (fun q h1 h2 => by omega)
  obtain ⟨h1, h2⟩ := isortD_spec n (i + 1) (sinkD i l) (by omega) (by rw [sinkD_length]; omega) (by simpa using hs)
  rw [sinkD_length] at h1
  exact ⟨h1, h2.trans (sinkD_perm (by omega))⟩
theorem isortD_eq (l : List Dg) : isortD (l.length - 1) 1 l = sortD l := by
 by_cases h0 : l.length = 0
 ·have : l = [] := List.eq_nil_of_length_eq_zero h0
  subst this; rfl
 obtain ⟨h1, h2⟩ := isortD_spec (l.length - 1) 1 l (by omega) (by omega) (fun p q h1 h2 => by omega)
 refine sorted_unique ?_ (sortD_sorted l) (h2.trans (sortD_perm l).symm)
 unfold SortedD
 rw [List.pairwise_iff_getElem]
 intro p q hp hq hpq
 have hlen := h2.length_eq
 have := h1 p q hpq (by omega)
 rwa [gD_eq hp, gD_eq hq] at this
theorem take_while_idx (d : Dg) : ∀ (l : List Dg), ∃ k, k ≤ l.length ∧ l.takeWhile (ltD · d) = l.take k ∧ l.dropWhile (ltD · d) = l.drop k ∧ (∀ p, p < k → ltD (gD l p) d = true) ∧ (k < l.length → ltD (gD l k) d = false)
 | [] => ⟨0, by simp, by simp, by simp, by simp, by simp⟩
 | x :: t => by
  cases hx : ltD x d with
  | false => exact ⟨0, by simp, by simp [hx], by simp [hx], by simp, by simp [gD, hx]⟩
  | true =>
   obtain ⟨k, h1, h2, h3, h4, h5⟩ := take_while_idx d t
   refine ⟨k + 1, by simpa using h1, by simp [hx, h2], by simp [hx, h3], fun p hp => ?_, fun hk => ?_⟩
   ·cases p with
    | zero => simpa [gD] using hx
    | succ p => simpa [gD] using h4 p (by omega)
   ·simpa [gD] using h5 (by simpa using hk)
def inDg (n : Int) (d : Dg) : Bool := inB 0 (n - 1) d.1 && inB 0 (n - 1) d.2 && decide (d.2 - d.1 > 1) && !(d.1 == 0 && d.2 == n - 1)
def badT (n : Int) (ds : List Dg) (k : Nat) : Bool := !inDg n (gD ds k) || (decide (0 < k) && !ltD (gD ds (k - 1)) (gD ds k)) || (ds.take k).any (crossD (gD ds k))
def isTri (n : Int) (ds : List Dg) : Bool := inB 3 12 n && decide ((ds.length : Int) = n - 3) && !(List.range ds.length).any (badT n ds)
theorem crossD_comm (d e : Dg) : crossD d e = crossD e d := by
 unfold crossD
 exact Bool.or_comm _ _
def bumpD (out : List Int) (d : Dg) : List Int := ((out.set d.1.toNat (out.getD d.1.toNat 0 + 1))).set d.2.toNat (out.getD d.2.toNat 0 + 1)
theorem bumpD_get {out : List Int} {d : Dg} {p : Nat} (h1 : 0 ≤ d.1) (h2 : d.1 < d.2) (h3 : d.2 < out.length) (hp : p < out.length) : (bumpD out d).getD p 0 = out.getD p 0 + cntD d p := by
 unfold bumpD cntD
 simp only [List.getD_eq_getElem?_getD]
 by_cases e2 : d.2.toNat = p
 ·subst e2
  rw [List.getElem?_set_self (by simp; omega), if_neg (by omega), if_pos (by omega)]
  simp
 ·rw [List.getElem?_set_ne e2]
  by_cases e1 : d.1.toNat = p
  ·subst e1
   rw [List.getElem?_set_self (by omega), if_pos (by omega), if_neg (by omega)]
   simp
  ·rw [List.getElem?_set_ne e1, if_neg (by omega), if_neg (by omega)]
   simp
theorem bumpD_length (out : List Int) (d : Dg) : (bumpD out d).length = out.length := by simp [bumpD]
def quid (n : Nat) (ds : List Dg) : List Int := (List.range n).map fun (p : Nat) => 1 + cnt ds (p : Int)
theorem cnt_cons (d : Dg) (t : List Dg) (m : Int) : cnt (d :: t) m = cntD d m + cnt t m := rfl
theorem cnt_perm {ds es : List Dg} (h : ds.Perm es) (m : Int) : cnt ds m = cnt es m := by
 induction h with
 | nil => rfl
 | cons x _ ih => rw [cnt_cons, cnt_cons, ih]
 | swap x y l => simp only [cnt_cons]; omega
 | trans _ _ h1 h2 => rw [h1, h2]
theorem bump_fold (n : Nat) : ∀ (ds : List Dg) (out : List Int), out.length = n → (∀ d ∈ ds, 0 ≤ d.1 ∧ d.1 < d.2 ∧ d.2 < (n : Int)) → (ds.foldl bumpD out).length = n ∧ ∀ p, p < n → (ds.foldl bumpD out).getD p 0 = out.getD p 0 + cnt ds p
 | [], out, hl, h => ⟨hl, fun p hp => by simp [cnt]⟩
 | d :: t, out, hl, h => by
  have hd := h d (by simp)
  obtain ⟨h1, h2⟩ := bump_fold n t (bumpD out d) (by rw [bumpD_length, hl]) (fun e he => h e (by simp [he]))
  refine ⟨h1, fun p hp => ?_⟩
  rw [List.foldl_cons, h2 p hp, bumpD_get hd.1 hd.2.1 (by omega) (by omega), cnt_cons]
  omega
def nameL (n : Nat) : List Int := (List.range n).map fun (k : Nat) => (k : Int)
theorem nameL_length (n : Nat) : (nameL n).length = n := by simp [nameL]
theorem nameL_succ (n : Nat) : nameL (n + 1) = nameL n ++ [(n : Int)] := by simp [nameL, List.range_succ]
theorem nameL_get {n p : Nat} (h : p < n) : (nameL n)[p]? = some (p : Int) := by simp [nameL, h]
theorem nameL_sorted (n : Nat) : (nameL n).Pairwise (· < ·) := by
 rw [List.pairwise_iff_getElem]
 intro i j hi hj hij
 simp [nameL]
 omega
theorem nameL_mem {n : Nat} {m : Int} (h : m ∈ nameL n) : 0 ≤ m ∧ m < n := by
 obtain ⟨p, hp, e⟩ := List.mem_map.1 h
 have := List.mem_range.1 hp
 subst e
 omega
theorem cnts_quid {l : List Int} {ds : List Dg} : Cnts l (nameL l.length) ds ↔ quid l.length ds = l := by
 constructor
 ·intro h
  refine List.ext_getElem (by simp [quid]) fun p hp hp' => ?_
  have := h p l[p] (p : Int) (List.getElem?_eq_getElem hp') (nameL_get hp')
  rw [this]
  simp [quid]
 ·intro h p v m hv hm
  have hp := getElem?_lt hv
  rw [nameL_get hp] at hm
  cases hm
  rw [← h] at hv
  simp only [quid, List.getElem?_map, List.getElem?_range hp, Option.map_some, Option.some.injEq] at hv
  exact hv.symm
def trOf (l : List Int) : Option (List Dg) :=
 if inB 3 12 l.length then
  match tri (l.length - 3) l (nameL l.length) with
  | some ds => if quid l.length ds = l then some (sortD ds) else none
  | none => none
 else none
theorem trOf_spec (l : List Int) (h : l.all (inB 1 12) = true) (hn : inB 3 12 l.length = true) : (triS (l.length - 3) l (nameL l.length)).map sortD = trOf l := by
 rw [inB_iff] at hn
 have hb : ∀ v ∈ l, 1 ≤ v ∧ v ≤ 4611686018427387904 := fun v hv => by
  have := inB_iff.1 (List.all_eq_true.1 h v hv)
  omega
 unfold trOf
 rw [if_pos (inB_iff.2 hn)]
 have hl : l.length = l.length - 3 + 3 := by omega
 cases hS : triS (l.length - 3) l (nameL l.length) with
 | some ds =>
  obtain ⟨g1, g2⟩ := triS_tri _ _ _ _ (nameL_sorted _) hl (by rw [nameL_length]; omega) hb hS
  rw [g1]
  simp only []
  rw [if_pos (cnts_quid.1 g2)]
  rfl
 | none =>
  cases hT : tri (l.length - 3) l (nameL l.length) with
  | none => rfl
  | some ds =>
   simp only []
   split
   ·rename_i hq
    have := tri_triS _ _ _ _ (nameL_sorted _) hl (by rw [nameL_length]; omega) (by omega) hT (cnts_quid.2 hq)
    rw [this] at hS
    cases hS
   ·rfl
theorem cnt_le : ∀ {ds : List Dg} {m : Int}, (∀ d ∈ ds, d.1 < d.2) → cnt ds m ≤ ds.length
 | [], m, h => by simp [cnt]
 | d :: t, m, h => by
  have := cnt_le (ds := t) (m := m) fun d hd => h d (by simp [hd])
  rw [cnt_cons, List.length_cons]
  have q := h d (by simp)
  have : cntD d m ≤ 1 := by unfold cntD; split <;> split <;> omega
  omega
theorem trOf_bad (l : List Int) (h : l.all (inB 1 12) = false) : trOf l = none := by
 unfold trOf
 split
 ·rename_i hn
  rw [inB_iff] at hn
  split
  ·rename_i ds hT
   rw [if_neg]
   intro hq
   have hds := (tri_good _ _ _ _ (nameL_sorted _) (by omega) (by rw [nameL_length]; omega) hT)
   rw [List.all_eq_false] at h
   obtain ⟨v, hv, hb⟩ := h
   rw [← hq] at hv
   obtain ⟨p, hp, e⟩ := List.mem_map.1 hv
   have c1 := cnt_nn ds p
   have c2 : cnt ds p ≤ ds.length := cnt_le fun d hd => (hds.2.1 d hd).2.2.1
   apply hb
   rw [inB_iff, ← e]
   omega
  ·rfl
 ·rfl
def triSW : Nat → List Int → List Int → Option (List Int × List Dg)
 | 0, l, _ => some (l, [])
 | k + 1, l, names => match ear l with
  | none => none
  | some i => if okC l i then (triSW k (cutL l i) (names.eraseIdx i)).map fun r => (r.1, cutD names i :: r.2) else none
theorem triS_W : ∀ (k : Nat) (l names : List Int), triS k l names = (triSW k l names).bind fun r => if r.1 = [1, 1, 1] then some r.2 else none
 | 0, l, names => by simp [triS, triSW]
 | k + 1, l, names => by
  unfold triS triSW
  cases ear l with
  | none => rfl
  | some i =>
   simp only []
   split
   ·rw [triS_W k]
    cases triSW k (cutL l i) (names.eraseIdx i) with
    | none => rfl
    | some r => by_cases h : r.1 = [1, 1, 1] <;> simp [h]
   ·rfl
theorem triSW_len : ∀ (k : Nat) (l names : List Int) (r : List Int × List Dg), l.length = k + 3 → triSW k l names = some r → r.1.length = 3 ∧ r.2.length = k
 | 0, l, names, r, hl, h => by
  unfold triSW at h
  cases h
  exact ⟨hl, rfl⟩
 | k + 1, l, names, r, hl, h => by
  unfold triSW at h
  cases he : ear l with
  | none => rw [he] at h; cases h
  | some i =>
   rw [he] at h
   simp only [] at h
   split at h
   ·obtain ⟨r', h1, h2⟩ := Option.map_eq_some_iff.1 h
    subst h2
    obtain ⟨g1, g2⟩ := triSW_len k _ _ r' (by rw [cutL_length (ear_lt he).1]; omega) h1
    exact ⟨g1, by simp [g2]⟩
   ·cases h
theorem nb_tmod {n i : Nat} (hn : 3 ≤ n) (hn2 : n < 1000000) (hi : i < n) :
  Int.tmod (w64 ((w64 ((i : Int) + (n : Int))) - 1)) (n : Int) = (nbB n i : Int) ∧ Int.tmod (w64 ((i : Int) + 1)) (n : Int) = (nbC n i : Int) := by
 rw [w64_id (z := (i : Int) + n) (by omega) (by omega), w64_id (by omega) (by omega), w64_id (by omega) (by omega)]
 rw [Int.tmod_eq_emod_of_nonneg (by omega), Int.tmod_eq_emod_of_nonneg (by omega)]
 unfold nbB nbC
 rw [show (i : Int) + n - 1 = ((i + n - 1 : Nat) : Int) by omega, show (i : Int) + 1 = ((i + 1 : Nat) : Int) by omega]
 exact ⟨(Int.natCast_emod _ _).symm, (Int.natCast_emod _ _).symm⟩
theorem set_getD {l : List Int} {p : Nat} (h : p < l.length) : l[p]? = some (l.getD p 0) := by rw [List.getD_eq_getElem?_getD, List.getElem?_eq_getElem h]; rfl
theorem take_drop_erase {X : Type} (l : List X) (i : Nat) : l.take i ++ l.drop (i + 1) = l.eraseIdx i := (List.eraseIdx_eq_take_drop_succ l i).symm
def F89_sh : FSh := ⟨[(.ag [(.si .i64), (.si .i64)]), (.ag [(.si .i64), (.si .i64)])], []⟩
def F89_fo : List FO := [⟨[(.one .sb)], []⟩]
noncomputable def F89_t : ((Int × Int) × (Int × Int)) → T Bool := fun ((d_0, d_1), (e_0, e_1)) =>
 (.test (decide (d_0 < e_0))
 (.ret true)
 (.test (d_0 == e_0)
 (.ret (decide (d_1 < e_1)))
 (.ret false)))
noncomputable def F89 (v) := (F89_t v).run
noncomputable def F89_E : TEnv := E0
theorem F89_Eok : (F89_E).OK := E0ok
noncomputable def F89_told : Nat → Option SealT := fun id => none
theorem F89_ok : FOK Tryz.prog n_F89 F89_sh F89_fo F89 :=
 fn_ok (E := F89_E) (F89_Eok) (told := F89_told) (fl := []) (c := bodyOf fn_F89) (s := F89_sh) (l := F89_fo) (tree := F89_t) fnat_F89 (by kernel_rfl) (by kernel_rfl) (by kernel_rfl) (loopsOK_of (ls := []) (by kernel_rfl) trivial) (fun v => by kernel_rfl)
theorem F89_eq (d e : Dg) : F89 (d, e) = some (ltD d e) := by
 obtain ⟨a, b⟩ := d
 obtain ⟨c, f⟩ := e
 simp only [F89, F89_t, T.run, ltD]
 by_cases h1 : a < c
 ·simp [h1]
 ·by_cases h2 : a = c
  ·subst h2; simp [h1]
  ·simp [h1, h2]
def F72_sh : FSh := ⟨[(.one (.sl (.pair (.int .i64) (.int .i64)) false false))], []⟩
def F72_L6_sh : LSh := ⟨(fun ex => match ex with | .norm => [(3, none), (5, none), (6, none), (8, none), (9, none), (10, none)] | .exit i => if i = 2 then [(3, none), (5, none), (6, none), (8, none), (9, none), (10, none)] else if i = 1 then [(3, none), (8, none), (9, none), (10, none)] else if i = 0 then [(3, none)] else [] | .ret => [(2, none)]), [(3, (.one (.rw 0 0))), (5, (.one (.pf 1 0 0))), (6, (.one (.si .i64))), (8, (.one (.sl (.pair (.int .i64) (.int .i64)) false false))), (9, (.one (.si .i64))), (10, (.one (.si .i64)))], [(.row 0 (.pair (.int .i64) (.int .i64))), (.rcd 0 [(.si .i64), (.si .i64)])], [⟨(.exit 2), [(3, (.one (.rw 0 0))), (5, (.one (.pf 1 0 0))), (6, (.one (.si .i64))), (8, (.one (.sl (.pair (.int .i64) (.int .i64)) false false))), (9, (.one (.si .i64))), (10, (.one (.si .i64)))], [(.row 0 (.pair (.int .i64) (.int .i64))), (.rcd 0 [(.si .i64), (.si .i64)])]⟩], [], []⟩
noncomputable def F72_L6_step : ((Unit × Unit × Int × List ((Int × Int)) × Int × Int) × (List ((Int × Int)) × (Int × Int))) → T (((Unit × Unit × Int × List ((Int × Int)) × Int × Int) × (List ((Int × Int)) × (Int × Int))) ⊕ ((Unit × Unit × Int × List ((Int × Int)) × Int × Int) × (List ((Int × Int)) × (Int × Int)))) := fun (((), (), k, t8, t9, t10), (out, (d_0, d_1))) =>
 (.test (decide (k < (out.length : Int)))
 (.test (decide ((0 ≤ k) ∧ (k < (out.length : Int))))
 (.sub (out[(0 + (Int.toNat k))]?) fun z0 =>
 (.sub (F89 ((z0.1, z0.2), (d_0, d_1))) fun z1 =>
 (.test z1
 (.test (decide ((0 = 0) ∧ (out.length = out.length)))
 (.ret (Sum.inl (((), ((), ((w64 (k + 1)), (t8, (t9, t10))))), (out, (d_0, d_1)))))
 .fail)
 (.test (decide ((0 = 0) ∧ (out.length = out.length)))
 (.ret (Sum.inr (((), ((), (k, (t8, (t9, t10))))), (out, (d_0, d_1)))))
 .fail))))
 .fail)
 (.test (decide ((0 = 0) ∧ (out.length = out.length)))
 (.ret (Sum.inr (((), ((), (k, (t8, (t9, t10))))), (out, (d_0, d_1)))))
 .fail))
noncomputable def F72_L6 (v) := loopO (fun v => (F72_L6_step v).run) v
def F72_L3_sh : LSh := ⟨(fun ex => match ex with | .norm => [(3, none), (8, none), (9, none), (10, none)] | .exit i => if i = 0 then [(3, none)] else [] | .ret => [(2, none)]), [(3, (.one (.rw 0 0))), (8, (.one (.sl (.pair (.int .i64) (.int .i64)) false false))), (9, (.one (.si .i64))), (10, (.one (.si .i64)))], [(.row 0 (.pair (.int .i64) (.int .i64)))], [⟨(.exit 0), [(3, (.one (.rw 0 0)))], [(.row 0 (.pair (.int .i64) (.int .i64)))]⟩], [], []⟩
noncomputable def F72_L3_step : ((Unit × List ((Int × Int)) × Int × Int) × List ((Int × Int))) → T (((Unit × List ((Int × Int)) × Int × Int) × List ((Int × Int))) ⊕ (Unit × List ((Int × Int)))) := fun (((), t8, t9, t10), out) =>
 (.test (decide (t10 < t9))
 (.test (decide ((0 ≤ t10) ∧ (t10 < (t8.length : Int))))
 (.sub (t8[(Int.toNat t10)]?) fun z0 =>
 (.test (decide ((0 = 0) ∧ (out.length = out.length)))
 (.sub (F72_L6 (((), ((), ((0 : Int), (t8, (t9, t10))))), (out, (z0.1, z0.2)))) fun z1 =>
 (.test (decide (0 ≤ z1.1.2.2.1))
 (.test (decide ((0 ≤ (Int.toNat z1.1.2.2.1)) ∧ ((Int.toNat z1.1.2.2.1) ≤ z1.2.1.length)))
 (.test (decide ((0 + ((Int.toNat z1.1.2.2.1) - 0)) ≤ z1.2.1.length))
 (.test true
 (.test (decide ((2 * ((0 + (List.length (win z1.2.1 0 ((Int.toNat z1.1.2.2.1) - 0)))) * 17)) ≤ 140737488355328))
 (.test (decide (1 ≤ (List.length (List.set (List.replicate 1 ((0 : Int), (0 : Int))) 0 (z1.2.2.1, z1.2.2.2)))))
 (.test (decide ((0 + (0 + (List.length (win z1.2.1 0 ((Int.toNat z1.1.2.2.1) - 0))))) ≤ (List.length ((win (List.replicate 0 ((0 : Int), (0 : Int))) 0 0) ++ (win z1.2.1 0 ((Int.toNat z1.1.2.2.1) - 0))))))
 (.test (decide ((2 * (((0 + (List.length (win z1.2.1 0 ((Int.toNat z1.1.2.2.1) - 0)))) + (List.length (win (List.set (List.replicate 1 ((0 : Int), (0 : Int))) 0 (z1.2.2.1, z1.2.2.2)) 0 1))) * 17)) ≤ 140737488355328))
 (.test (decide (0 ≤ z1.1.2.2.1))
 (.test (decide (((Int.toNat z1.1.2.2.1) ≤ z1.2.1.length) ∧ (z1.2.1.length ≤ z1.2.1.length)))
 (.test (decide (((0 + (Int.toNat z1.1.2.2.1)) + (z1.2.1.length - (Int.toNat z1.1.2.2.1))) ≤ z1.2.1.length))
 (.test (decide ((0 + ((0 + (List.length (win z1.2.1 0 ((Int.toNat z1.1.2.2.1) - 0)))) + (List.length (win (List.set (List.replicate 1 ((0 : Int), (0 : Int))) 0 (z1.2.2.1, z1.2.2.2)) 0 1)))) ≤ (List.length ((win ((win (List.replicate 0 ((0 : Int), (0 : Int))) 0 0) ++ (win z1.2.1 0 ((Int.toNat z1.1.2.2.1) - 0))) 0 (0 + (List.length (win z1.2.1 0 ((Int.toNat z1.1.2.2.1) - 0))))) ++ (win (List.set (List.replicate 1 ((0 : Int), (0 : Int))) 0 (z1.2.2.1, z1.2.2.2)) 0 1)))))
 (.test (decide ((2 * ((((0 + (List.length (win z1.2.1 0 ((Int.toNat z1.1.2.2.1) - 0)))) + (List.length (win (List.set (List.replicate 1 ((0 : Int), (0 : Int))) 0 (z1.2.2.1, z1.2.2.2)) 0 1))) + (List.length (win z1.2.1 (0 + (Int.toNat z1.1.2.2.1)) (z1.2.1.length - (Int.toNat z1.1.2.2.1))))) * 17)) ≤ 140737488355328))
 (.test (decide ((0 = 0) ∧ ((((0 + (List.length (win z1.2.1 0 ((Int.toNat z1.1.2.2.1) - 0)))) + (List.length (win (List.set (List.replicate 1 ((0 : Int), (0 : Int))) 0 (z1.2.2.1, z1.2.2.2)) 0 1))) + (List.length (win z1.2.1 (0 + (Int.toNat z1.1.2.2.1)) (z1.2.1.length - (Int.toNat z1.1.2.2.1))))) = (List.length ((win ((win ((win (List.replicate 0 ((0 : Int), (0 : Int))) 0 0) ++ (win z1.2.1 0 ((Int.toNat z1.1.2.2.1) - 0))) 0 (0 + (List.length (win z1.2.1 0 ((Int.toNat z1.1.2.2.1) - 0))))) ++ (win (List.set (List.replicate 1 ((0 : Int), (0 : Int))) 0 (z1.2.2.1, z1.2.2.2)) 0 1)) 0 ((0 + (List.length (win z1.2.1 0 ((Int.toNat z1.1.2.2.1) - 0)))) + (List.length (win (List.set (List.replicate 1 ((0 : Int), (0 : Int))) 0 (z1.2.2.1, z1.2.2.2)) 0 1)))) ++ (win z1.2.1 (0 + (Int.toNat z1.1.2.2.1)) (z1.2.1.length - (Int.toNat z1.1.2.2.1))))))))
 (.ret (Sum.inl (((), (z1.1.2.2.2.1, (z1.1.2.2.2.2.1, (w64 (z1.1.2.2.2.2.2 + 1))))), ((win ((win ((win (List.replicate 0 ((0 : Int), (0 : Int))) 0 0) ++ (win z1.2.1 0 ((Int.toNat z1.1.2.2.1) - 0))) 0 (0 + (List.length (win z1.2.1 0 ((Int.toNat z1.1.2.2.1) - 0))))) ++ (win (List.set (List.replicate 1 ((0 : Int), (0 : Int))) 0 (z1.2.2.1, z1.2.2.2)) 0 1)) 0 ((0 + (List.length (win z1.2.1 0 ((Int.toNat z1.1.2.2.1) - 0)))) + (List.length (win (List.set (List.replicate 1 ((0 : Int), (0 : Int))) 0 (z1.2.2.1, z1.2.2.2)) 0 1)))) ++ (win z1.2.1 (0 + (Int.toNat z1.1.2.2.1)) (z1.2.1.length - (Int.toNat z1.1.2.2.1)))))))
 .fail)
 .fail)
 .fail)
 .fail)
 .fail)
 .fail)
 .fail)
 .fail)
 .fail)
 .fail)
 .fail)
 .fail)
 .fail)
 .fail))
 .fail))
 .fail)
 (.test (decide ((0 = 0) ∧ (out.length = out.length)))
 (.ret (Sum.inr ((), out)))
 .fail))
noncomputable def F72_L3 (v) := loopO (fun v => (F72_L3_step v).run) v
def F72_fo : List FO := [⟨[(.one (.rw 0 0))], [(.row 0 (.pair (.int .i64) (.int .i64)))]⟩]
noncomputable def F72_t : List ((Int × Int)) → T (Unit × List ((Int × Int))) := fun ds =>
 (.test true
 (.sub (F72_L3 (((), (ds, ((ds.length : Int), (0 : Int)))), ([] : List (Int × Int)))) fun z0 =>
 (.test (decide ((0 = 0) ∧ (z0.2.length = z0.2.length)))
 (.ret ((), z0.2))
 .fail))
 .fail)
noncomputable def F72 (v) := (F72_t v).run
noncomputable def F72_E : TEnv := (E0.add1 n_F89 F89_sh F89_fo F89)
theorem F72_Eok : (F72_E).OK := (E0ok.add1 F89_ok)
noncomputable def F72_told : Nat → Option SealT := fun id => if id = 6 then some (LSh.told F72_L6_sh 0 (F72_L6_step)) else if id = 3 then some (LSh.told F72_L3_sh 0 (F72_L3_step)) else none
theorem F72_L6_ok : ToldOK Tryz.prog 0 (loopAt (bodyOf fn_F72) [0, 0]) (LSh.told F72_L6_sh 0 (F72_L6_step)) :=
 loop_ok (E := F72_E) (F72_Eok) (told := F72_told) (l := F72_L6_sh) (step := F72_L6_step) (loopsOK_of (ls := []) (by kernel_rfl) trivial) (by kernel_rfl) (fun v => by kernel_rfl)
theorem F72_L3_ok : ToldOK Tryz.prog 0 (loopAt (bodyOf fn_F72) [0]) (LSh.told F72_L3_sh 0 (F72_L3_step)) :=
 loop_ok (E := F72_E) (F72_Eok) (told := F72_told) (l := F72_L3_sh) (step := F72_L3_step) (loopsOK_of (ls := [loopAt (bodyOf fn_F72) [0, 0]]) (by kernel_rfl) ⟨.inr ⟨_, by kernel_rfl, F72_L6_ok⟩, trivial⟩) (by kernel_rfl) (fun v => by kernel_rfl)
theorem F72_ok : FOK Tryz.prog n_F72 F72_sh F72_fo F72 :=
 fn_ok (E := F72_E) (F72_Eok) (told := F72_told) (fl := []) (c := bodyOf fn_F72) (s := F72_sh) (l := F72_fo) (tree := F72_t) fnat_F72 (by kernel_rfl) (by kernel_rfl) (by kernel_rfl) (loopsOK_of (ls := [loopAt (bodyOf fn_F72) [0]]) (by kernel_rfl) ⟨.inr ⟨_, by kernel_rfl, F72_L3_ok⟩, trivial⟩) (fun v => by kernel_rfl)
theorem F72_place (d : Dg) (out : List Dg) (t8 : List Dg) (a b : Int) (hl : out.length < 1000000) :
  ∃ k : Nat, k ≤ out.length ∧ out.take k ++ d :: out.drop k = insD d out ∧ F72_L6 (((), ((), ((0 : Int), (t8, (a, b))))), (out, d)) = some (((), ((), ((k : Int), (t8, (a, b))))), (out, d)) := by
 obtain ⟨k, h1, h2, h3, h4, h5⟩ := take_while_idx d out
 refine ⟨k, h1, by unfold insD; rw [h2, h3], ?_⟩
 obtain ⟨d0, d1⟩ := d
 have key : ∀ n j, j + n = k → F72_L6 (((), ((), ((j : Int), (t8, (a, b))))), (out, (d0, d1))) = some (((), ((), ((k : Int), (t8, (a, b))))), (out, (d0, d1))) := by
  intro n
  induction n with
  | zero =>
   intro j hj
   have : j = k := by omega
   subst this
   simp only [F72_L6]
   refine loopO_done ?_
   by_cases hk : j < out.length
   ·have c0 : (j : Int) < (out.length : Int) := by omega
    have c1 : (0 : Int) ≤ (j : Int) ∧ (j : Int) < (out.length : Int) := by omega
    simp only [F72_L6_step, T.run, c0, c1, decide_true, if_true, Int.toNat_natCast, Nat.zero_add, gD_some hk, Option.bind_some, F89_eq, h5 hk, and_self]
    simp
   ·have c0 : ¬ ((j : Int) < (out.length : Int)) := by omega
    simp only [F72_L6_step, T.run, c0, decide_false]
    simp
  | succ n ih =>
   intro j hj
   have hk : j < out.length := by omega
   have ih := ih (j + 1) (by omega)
   simp only [F72_L6] at ih ⊢
   rw [← ih]
   refine loopO_next ?_
   have c0 : (j : Int) < (out.length : Int) := by omega
   have c1 : (0 : Int) ≤ (j : Int) ∧ (j : Int) < (out.length : Int) := by omega
   have w1 : w64 ((j : Int) + 1) = ((j + 1 : Nat) : Int) := by rw [w64_id (by omega) (by omega)]; omega
   simp only [F72_L6_step, T.run, c0, c1, decide_true, if_true, Int.toNat_natCast, Nat.zero_add, gD_some hk, Option.bind_some, F89_eq, h4 j (by omega), and_self, w1]
 simpa using key k 0 (by omega)
theorem insD_length (d : Dg) (l : List Dg) : (insD d l).length = l.length + 1 := by simpa using (insD_perm d l).length_eq
theorem F72_eq (l : List Dg) (hl : l.length < 100000) : F72 l = some ((), sortD l) := by
 have h := loop_fold (step := fun v => (F72_L3_step v).run) (xs := l) (fun k (s : List Dg) => s.length = k) (fun k s => (((), (l, ((l.length : Int), (k : Int)))), s)) (fun out d => insD d out) (fun s => ((), s))
  (fun k s d hk hd => by
   have hlt := getElem?_lt hd
   have c0 : (k : Int) < (l.length : Int) := by omega
   have c1 : (0 : Int) ≤ (k : Int) ∧ (k : Int) < (l.length : Int) := by omega
   have w1 : w64 ((k : Int) + 1) = ((k + 1 : Nat) : Int) := by rw [w64_id (by omega) (by omega)]; omega
   obtain ⟨m, m1, m2, m3⟩ := F72_place d s l (l.length : Int) (k : Int) (by omega)
   refine ⟨?_, by rw [insD_length, hk]⟩
   have t1 : win s 0 (m - 0) = s.take m := win_take _ _
   have t2 : win (s.take m) 0 m = s.take m := by rw [win_take, List.take_take, Nat.min_self]
   have t3 : win s m (s.length - m) = s.drop m := by unfold win; rw [List.take_of_length_le (by simp)]
   have l1 : (s.take m).length = m := by simp; omega
   have l2 : (s.drop m).length = s.length - m := by simp
   have t4 : win ([] : List Dg) 0 0 = [] := rfl
   have l3 : (s.take m ++ [d]).length = m + 1 := by simp; omega
   have t5 : win (s.take m ++ [d]) 0 (m + 1) = s.take m ++ [d] := by rw [← l3]; exact win_all _
   have e : s.take m ++ [d] ++ s.drop m = insD d s := by rw [← m2]; simp
   simp only [F72_L3_step, T.run, c0, c1, decide_true, if_true, Int.toNat_natCast, Option.bind_some, and_self, hd, m3, win_one, List.replicate_zero, t1, t4, List.nil_append, l1, Nat.zero_add, t2, t3, l2, List.length_cons, List.length_nil, t5, e]
   have n1 : (0 : Int) ≤ (m : Int) := by omega
   have n2 : m - 0 ≤ s.length := by omega
   have n3 : m ≤ s.length := m1
   have n4 : 2 * ((m + 1 + (s.length - m)) * 17) ≤ 140737488355328 := by omega
   have n5 : 2 * (m * 17) ≤ 140737488355328 := by omega
   have n6 : 2 * ((m + 1) * 17) ≤ 140737488355328 := by omega
   have n7 : m + (s.length - m) ≤ s.length := by omega
   have n8 : m + 1 + (s.length - m) = s.length + 1 := by omega
   simp [n1, n2, n3, n4, n5, n6, n7, n8, w1, insD_length, l1]
   omega)
  (fun s hs => by simp [F72_L3_step, T.run])
  [] rfl
 simp only [Int.natCast_zero] at h
 simp only [F72, F72_t, T.run, F72_L3, h.1, Option.bind_some]
 simp [sortD]
def F120_sh : FSh := ⟨[(.one (.sl (.int .i64) false false))], []⟩
def F120_L5_sh : LSh := ⟨(fun ex => match ex with | .norm => [(4, none), (5, none), (26, none), (27, none)] | .exit i => if i = 0 then [(4, none), (5, none)] else [] | .ret => [(2, none), (3, none)]), [(4, (.one (.rw 0 0))), (5, (.one (.rw 1 0))), (26, (.one (.si .i64))), (27, (.one (.si .i64)))], [(.row 0 (.int .i64)), (.row 0 (.int .i64))], [⟨(.exit 0), [(4, (.one (.rw 0 0))), (5, (.one (.rw 1 0)))], [(.row 0 (.int .i64)), (.row 0 (.int .i64))]⟩], [], []⟩
noncomputable def F120_L5_step : ((Unit × Unit × Int × Int) × (List (Int) × List (Int))) → T (((Unit × Unit × Int × Int) × (List (Int) × List (Int))) ⊕ ((Unit × Unit) × (List (Int) × List (Int)))) := fun (((), (), t26, t27), (left, corners)) =>
 (.test (decide (t27 < t26))
 (.test (decide (1 ≤ (List.length (List.set (List.replicate 1 (0 : Int)) 0 t27))))
 (.test (decide ((0 + corners.length) ≤ corners.length))
 (.test (decide ((2 * ((corners.length + (List.length (win (List.set (List.replicate 1 (0 : Int)) 0 t27) 0 1))) * 9)) ≤ 140737488355328))
 (.test (decide ((0 = 0) ∧ (left.length = left.length)))
 (.test (decide ((0 = 0) ∧ ((corners.length + (List.length (win (List.set (List.replicate 1 (0 : Int)) 0 t27) 0 1))) = (List.length ((win corners 0 corners.length) ++ (win (List.set (List.replicate 1 (0 : Int)) 0 t27) 0 1))))))
 (.ret (Sum.inl (((), ((), (t26, (w64 (t27 + 1))))), (left, ((win corners 0 corners.length) ++ (win (List.set (List.replicate 1 (0 : Int)) 0 t27) 0 1))))))
 .fail)
 .fail)
 .fail)
 .fail)
 .fail)
 (.test (decide ((0 = 0) ∧ (left.length = left.length)))
 (.test (decide ((0 = 0) ∧ (corners.length = corners.length)))
 (.ret (Sum.inr (((), ()), (left, corners))))
 .fail)
 .fail))
noncomputable def F120_L5 (v) := loopO (fun v => (F120_L5_step v).run) v
def F120_L13_sh : LSh := ⟨(fun ex => match ex with | .norm => [(4, none), (5, none), (7, none), (8, none), (38, none), (39, none), (40, none)] | .exit i => if i = 4 then [(4, none), (5, none), (7, none), (8, none)] else if i = 3 then [(4, none), (5, none), (7, none)] else if i = 2 then [(4, none), (7, none)] else [] | .ret => [(2, none), (3, none)]), [(4, (.one (.rw 0 0))), (5, (.one (.rw 1 0))), (7, (.one (.rw 2 0))), (8, (.one (.si .i64))), (38, (.one (.rw 0 0))), (39, (.one (.si .i64))), (40, (.one (.si .i64)))], [(.row 0 (.int .i64)), (.row 0 (.int .i64)), (.row 0 (.pair (.int .i64) (.int .i64)))], [⟨(.exit 4), [(4, (.one (.rw 0 0))), (5, (.one (.rw 1 0))), (7, (.one (.rw 2 0))), (8, (.one (.si .i64)))], [(.row 0 (.int .i64)), (.row 0 (.int .i64)), (.row 0 (.pair (.int .i64) (.int .i64)))]⟩], [], []⟩
noncomputable def F120_L13_step : ((Unit × Unit × Unit × Int × Unit × Int × Int) × (List (Int) × List (Int) × List ((Int × Int)))) → T (((Unit × Unit × Unit × Int × Unit × Int × Int) × (List (Int) × List (Int) × List ((Int × Int)))) ⊕ ((Unit × Unit × Unit × Int) × (List (Int) × List (Int) × List ((Int × Int))))) := fun (((), (), (), at', (), t39, t40), (left, corners, out)) =>
 (.test (decide (t40 < t39))
 (.test (decide ((0 ≤ t40) ∧ (t40 < (left.length : Int))))
 (.sub (left[(0 + (Int.toNat t40))]?) fun z0 =>
 (.test (z0 == 1)
 (.test (decide (at' < 0))
 (.test (decide ((0 = 0) ∧ (left.length = left.length)))
 (.test (decide ((0 = 0) ∧ (corners.length = corners.length)))
 (.test (decide ((0 = 0) ∧ (out.length = out.length)))
 (.test (decide ((0 = 0) ∧ (left.length = left.length)))
 (.ret (Sum.inl (((), ((), ((), (t40, ((), (t39, (w64 (t40 + 1)))))))), (left, (corners, out)))))
 .fail)
 .fail)
 .fail)
 .fail)
 (.test (decide ((0 = 0) ∧ (left.length = left.length)))
 (.test (decide ((0 = 0) ∧ (corners.length = corners.length)))
 (.test (decide ((0 = 0) ∧ (out.length = out.length)))
 (.test (decide ((0 = 0) ∧ (left.length = left.length)))
 (.ret (Sum.inl (((), ((), ((), (at', ((), (t39, (w64 (t40 + 1)))))))), (left, (corners, out)))))
 .fail)
 .fail)
 .fail)
 .fail))
 (.test (decide ((0 = 0) ∧ (left.length = left.length)))
 (.test (decide ((0 = 0) ∧ (corners.length = corners.length)))
 (.test (decide ((0 = 0) ∧ (out.length = out.length)))
 (.test (decide ((0 = 0) ∧ (left.length = left.length)))
 (.ret (Sum.inl (((), ((), ((), (at', ((), (t39, (w64 (t40 + 1)))))))), (left, (corners, out)))))
 .fail)
 .fail)
 .fail)
 .fail)))
 .fail)
 (.test (decide ((0 = 0) ∧ (left.length = left.length)))
 (.test (decide ((0 = 0) ∧ (corners.length = corners.length)))
 (.test (decide ((0 = 0) ∧ (out.length = out.length)))
 (.ret (Sum.inr (((), ((), ((), at'))), (left, (corners, out)))))
 .fail)
 .fail)
 .fail))
noncomputable def F120_L13 (v) := loopO (fun v => (F120_L13_step v).run) v
def F120_L10_sh : LSh := ⟨(fun ex => match ex with | .norm => [(4, none), (5, none), (7, none)] | .exit i => if i = 2 then [(4, none), (7, none)] else [] | .ret => [(2, none), (3, none)]), [(4, (.one (.rw 0 0))), (5, (.one (.rw 1 0))), (7, (.one (.rw 2 0)))], [(.row 0 (.int .i64)), (.row 0 (.int .i64)), (.row 0 (.pair (.int .i64) (.int .i64)))], [⟨.ret, [(2, (.one (.rw 0 0))), (3, (.one .sb))], [(.row 0 (.pair (.int .i64) (.int .i64)))]⟩, ⟨(.exit 2), [(4, (.one (.rw 0 0))), (7, (.one (.rw 1 0)))], [(.row 0 (.int .i64)), (.row 0 (.pair (.int .i64) (.int .i64)))]⟩], [], []⟩
noncomputable def F120_L10_step : ((Unit × Unit × Unit) × (List (Int) × List (Int) × List ((Int × Int)))) → T (((Unit × Unit × Unit) × (List (Int) × List (Int) × List ((Int × Int)))) ⊕ (((Unit × Bool) × List ((Int × Int))) ⊕ ((Unit × Unit) × (List (Int) × List ((Int × Int)))))) := fun (((), (), ()), (left, corners, out)) =>
 (.test (decide ((left.length : Int) > 3))
 (.test (decide ((0 = 0) ∧ (left.length = left.length)))
 (.test (decide ((0 = 0) ∧ (corners.length = corners.length)))
 (.test (decide ((0 = 0) ∧ (out.length = out.length)))
 (.test (decide ((0 = 0) ∧ (left.length = left.length)))
 (.sub (F120_L13 (((), ((), ((), ((-1), ((), ((left.length : Int), (0 : Int))))))), (left, (corners, out)))) fun z0 =>
 (.test (decide (z0.1.2.2.2 < 0))
 (.test true
 (.ret (Sum.inr (Sum.inl (((), false), ([] : List (Int × Int))))))
 .fail)
 (.test (decide ((z0.2.1.length : Int) ≠ 0))
 (.test (decide ((z0.2.1.length : Int) ≠ 0))
 (.test (decide ((0 ≤ (Int.tmod (w64 ((w64 (z0.1.2.2.2 + (z0.2.1.length : Int))) - 1)) (z0.2.1.length : Int))) ∧ ((Int.tmod (w64 ((w64 (z0.1.2.2.2 + (z0.2.1.length : Int))) - 1)) (z0.2.1.length : Int)) < (z0.2.1.length : Int))))
 (.sub (z0.2.1[(0 + (Int.toNat (Int.tmod (w64 ((w64 (z0.1.2.2.2 + (z0.2.1.length : Int))) - 1)) (z0.2.1.length : Int))))]?) fun z1 =>
 (.test (decide ((0 ≤ (Int.tmod (w64 ((w64 (z0.1.2.2.2 + (z0.2.1.length : Int))) - 1)) (z0.2.1.length : Int))) ∧ ((Int.tmod (w64 ((w64 (z0.1.2.2.2 + (z0.2.1.length : Int))) - 1)) (z0.2.1.length : Int)) < (z0.2.1.length : Int))))
 (.sub (z0.2.1[(0 + (Int.toNat (Int.tmod (w64 ((w64 (z0.1.2.2.2 + (z0.2.1.length : Int))) - 1)) (z0.2.1.length : Int))))]?) fun z2 =>
 (.test (decide ((0 ≤ (Int.tmod (w64 (z0.1.2.2.2 + 1)) (z0.2.1.length : Int))) ∧ ((Int.tmod (w64 (z0.1.2.2.2 + 1)) (z0.2.1.length : Int)) < (z0.2.1.length : Int))))
 (.sub ((List.set z0.2.1 (0 + (Int.toNat (Int.tmod (w64 ((w64 (z0.1.2.2.2 + (z0.2.1.length : Int))) - 1)) (z0.2.1.length : Int)))) (w64 (z1 - 1)))[(0 + (Int.toNat (Int.tmod (w64 (z0.1.2.2.2 + 1)) (z0.2.1.length : Int))))]?) fun z3 =>
 (.test (decide ((0 ≤ (Int.tmod (w64 (z0.1.2.2.2 + 1)) (z0.2.1.length : Int))) ∧ ((Int.tmod (w64 (z0.1.2.2.2 + 1)) (z0.2.1.length : Int)) < (z0.2.1.length : Int))))
 (.sub ((List.set z0.2.1 (0 + (Int.toNat (Int.tmod (w64 ((w64 (z0.1.2.2.2 + (z0.2.1.length : Int))) - 1)) (z0.2.1.length : Int)))) (w64 (z1 - 1)))[(0 + (Int.toNat (Int.tmod (w64 (z0.1.2.2.2 + 1)) (z0.2.1.length : Int))))]?) fun z4 =>
 (.test (decide ((0 ≤ (Int.tmod (w64 ((w64 (z0.1.2.2.2 + (z0.2.1.length : Int))) - 1)) (z0.2.1.length : Int))) ∧ ((Int.tmod (w64 ((w64 (z0.1.2.2.2 + (z0.2.1.length : Int))) - 1)) (z0.2.1.length : Int)) < (z0.2.1.length : Int))))
 (.sub ((List.set (List.set z0.2.1 (0 + (Int.toNat (Int.tmod (w64 ((w64 (z0.1.2.2.2 + (z0.2.1.length : Int))) - 1)) (z0.2.1.length : Int)))) (w64 (z1 - 1))) (0 + (Int.toNat (Int.tmod (w64 (z0.1.2.2.2 + 1)) (z0.2.1.length : Int)))) (w64 (z3 - 1)))[(0 + (Int.toNat (Int.tmod (w64 ((w64 (z0.1.2.2.2 + (z0.2.1.length : Int))) - 1)) (z0.2.1.length : Int))))]?) fun z5 =>
 (.test (decide (z5 < 1))
 (.test true
 (.ret (Sum.inr (Sum.inl (((), false), ([] : List (Int × Int))))))
 .fail)
 (.test (decide ((0 ≤ (Int.tmod (w64 (z0.1.2.2.2 + 1)) (z0.2.1.length : Int))) ∧ ((Int.tmod (w64 (z0.1.2.2.2 + 1)) (z0.2.1.length : Int)) < (z0.2.1.length : Int))))
 (.sub ((List.set (List.set z0.2.1 (0 + (Int.toNat (Int.tmod (w64 ((w64 (z0.1.2.2.2 + (z0.2.1.length : Int))) - 1)) (z0.2.1.length : Int)))) (w64 (z1 - 1))) (0 + (Int.toNat (Int.tmod (w64 (z0.1.2.2.2 + 1)) (z0.2.1.length : Int)))) (w64 (z3 - 1)))[(0 + (Int.toNat (Int.tmod (w64 (z0.1.2.2.2 + 1)) (z0.2.1.length : Int))))]?) fun z6 =>
 (.test (decide (z6 < 1))
 (.test true
 (.ret (Sum.inr (Sum.inl (((), false), ([] : List (Int × Int))))))
 .fail)
 (.test (decide ((0 ≤ (Int.tmod (w64 ((w64 (z0.1.2.2.2 + (z0.2.1.length : Int))) - 1)) (z0.2.1.length : Int))) ∧ ((Int.tmod (w64 ((w64 (z0.1.2.2.2 + (z0.2.1.length : Int))) - 1)) (z0.2.1.length : Int)) < (z0.2.2.1.length : Int))))
 (.sub (z0.2.2.1[(0 + (Int.toNat (Int.tmod (w64 ((w64 (z0.1.2.2.2 + (z0.2.1.length : Int))) - 1)) (z0.2.1.length : Int))))]?) fun z7 =>
 (.test (decide ((0 ≤ (Int.tmod (w64 (z0.1.2.2.2 + 1)) (z0.2.1.length : Int))) ∧ ((Int.tmod (w64 (z0.1.2.2.2 + 1)) (z0.2.1.length : Int)) < (z0.2.2.1.length : Int))))
 (.sub (z0.2.2.1[(0 + (Int.toNat (Int.tmod (w64 (z0.1.2.2.2 + 1)) (z0.2.1.length : Int))))]?) fun z8 =>
 (.sub (F80 (z7, z8)) fun z9 =>
 (.test (decide ((0 ≤ (Int.tmod (w64 ((w64 (z0.1.2.2.2 + (z0.2.1.length : Int))) - 1)) (z0.2.1.length : Int))) ∧ ((Int.tmod (w64 ((w64 (z0.1.2.2.2 + (z0.2.1.length : Int))) - 1)) (z0.2.1.length : Int)) < (z0.2.2.1.length : Int))))
 (.sub (z0.2.2.1[(0 + (Int.toNat (Int.tmod (w64 ((w64 (z0.1.2.2.2 + (z0.2.1.length : Int))) - 1)) (z0.2.1.length : Int))))]?) fun z10 =>
 (.test (decide ((0 ≤ (Int.tmod (w64 (z0.1.2.2.2 + 1)) (z0.2.1.length : Int))) ∧ ((Int.tmod (w64 (z0.1.2.2.2 + 1)) (z0.2.1.length : Int)) < (z0.2.2.1.length : Int))))
 (.sub (z0.2.2.1[(0 + (Int.toNat (Int.tmod (w64 (z0.1.2.2.2 + 1)) (z0.2.1.length : Int))))]?) fun z11 =>
 (.sub (F88 (z10, z11)) fun z12 =>
 (.test (decide (1 ≤ (List.length (List.set (List.replicate 1 ((0 : Int), (0 : Int))) 0 (z9, z12)))))
 (.test (decide ((0 + z0.2.2.2.length) ≤ z0.2.2.2.length))
 (.test (decide ((2 * ((z0.2.2.2.length + (List.length (win (List.set (List.replicate 1 ((0 : Int), (0 : Int))) 0 (z9, z12)) 0 1))) * 17)) ≤ 140737488355328))
 (.test (decide (0 ≤ z0.1.2.2.2))
 (.test (decide ((0 ≤ (Int.toNat z0.1.2.2.2)) ∧ ((Int.toNat z0.1.2.2.2) ≤ z0.2.1.length)))
 (.test (decide ((0 + ((Int.toNat z0.1.2.2.2) - 0)) ≤ (List.length (List.set (List.set z0.2.1 (0 + (Int.toNat (Int.tmod (w64 ((w64 (z0.1.2.2.2 + (z0.2.1.length : Int))) - 1)) (z0.2.1.length : Int)))) (w64 (z1 - 1))) (0 + (Int.toNat (Int.tmod (w64 (z0.1.2.2.2 + 1)) (z0.2.1.length : Int)))) (w64 (z3 - 1))))))
 (.sub (F101 (win (List.set (List.set z0.2.1 (0 + (Int.toNat (Int.tmod (w64 ((w64 (z0.1.2.2.2 + (z0.2.1.length : Int))) - 1)) (z0.2.1.length : Int)))) (w64 (z1 - 1))) (0 + (Int.toNat (Int.tmod (w64 (z0.1.2.2.2 + 1)) (z0.2.1.length : Int)))) (w64 (z3 - 1))) 0 ((Int.toNat z0.1.2.2.2) - 0))) fun z13 =>
 (.test (decide (0 ≤ (w64 (z0.1.2.2.2 + 1))))
 (.test (decide (((Int.toNat (w64 (z0.1.2.2.2 + 1))) ≤ z0.2.1.length) ∧ (z0.2.1.length ≤ z0.2.1.length)))
 (.test (decide (((0 + (Int.toNat (w64 (z0.1.2.2.2 + 1)))) + (z0.2.1.length - (Int.toNat (w64 (z0.1.2.2.2 + 1))))) ≤ (List.length (List.set (List.set z0.2.1 (0 + (Int.toNat (Int.tmod (w64 ((w64 (z0.1.2.2.2 + (z0.2.1.length : Int))) - 1)) (z0.2.1.length : Int)))) (w64 (z1 - 1))) (0 + (Int.toNat (Int.tmod (w64 (z0.1.2.2.2 + 1)) (z0.2.1.length : Int)))) (w64 (z3 - 1))))))
 (.test (decide ((0 + z13.2.length) ≤ z13.2.length))
 (.test (decide ((2 * ((z13.2.length + (List.length (win (List.set (List.set z0.2.1 (0 + (Int.toNat (Int.tmod (w64 ((w64 (z0.1.2.2.2 + (z0.2.1.length : Int))) - 1)) (z0.2.1.length : Int)))) (w64 (z1 - 1))) (0 + (Int.toNat (Int.tmod (w64 (z0.1.2.2.2 + 1)) (z0.2.1.length : Int)))) (w64 (z3 - 1))) (0 + (Int.toNat (w64 (z0.1.2.2.2 + 1)))) (z0.2.1.length - (Int.toNat (w64 (z0.1.2.2.2 + 1))))))) * 9)) ≤ 140737488355328))
 (.test (decide (0 ≤ z0.1.2.2.2))
 (.test (decide ((0 ≤ (Int.toNat z0.1.2.2.2)) ∧ ((Int.toNat z0.1.2.2.2) ≤ z0.2.2.1.length)))
 (.test (decide ((0 + ((Int.toNat z0.1.2.2.2) - 0)) ≤ z0.2.2.1.length))
 (.sub (F101 (win z0.2.2.1 0 ((Int.toNat z0.1.2.2.2) - 0))) fun z14 =>
 (.test (decide (0 ≤ (w64 (z0.1.2.2.2 + 1))))
 (.test (decide (((Int.toNat (w64 (z0.1.2.2.2 + 1))) ≤ z0.2.2.1.length) ∧ (z0.2.2.1.length ≤ z0.2.2.1.length)))
 (.test (decide (((0 + (Int.toNat (w64 (z0.1.2.2.2 + 1)))) + (z0.2.2.1.length - (Int.toNat (w64 (z0.1.2.2.2 + 1))))) ≤ z0.2.2.1.length))
 (.test (decide ((0 + z14.2.length) ≤ z14.2.length))
 (.test (decide ((2 * ((z14.2.length + (List.length (win z0.2.2.1 (0 + (Int.toNat (w64 (z0.1.2.2.2 + 1)))) (z0.2.2.1.length - (Int.toNat (w64 (z0.1.2.2.2 + 1))))))) * 9)) ≤ 140737488355328))
 (.test (decide ((0 = 0) ∧ ((z13.2.length + (List.length (win (List.set (List.set z0.2.1 (0 + (Int.toNat (Int.tmod (w64 ((w64 (z0.1.2.2.2 + (z0.2.1.length : Int))) - 1)) (z0.2.1.length : Int)))) (w64 (z1 - 1))) (0 + (Int.toNat (Int.tmod (w64 (z0.1.2.2.2 + 1)) (z0.2.1.length : Int)))) (w64 (z3 - 1))) (0 + (Int.toNat (w64 (z0.1.2.2.2 + 1)))) (z0.2.1.length - (Int.toNat (w64 (z0.1.2.2.2 + 1))))))) = (List.length ((win z13.2 0 z13.2.length) ++ (win (List.set (List.set z0.2.1 (0 + (Int.toNat (Int.tmod (w64 ((w64 (z0.1.2.2.2 + (z0.2.1.length : Int))) - 1)) (z0.2.1.length : Int)))) (w64 (z1 - 1))) (0 + (Int.toNat (Int.tmod (w64 (z0.1.2.2.2 + 1)) (z0.2.1.length : Int)))) (w64 (z3 - 1))) (0 + (Int.toNat (w64 (z0.1.2.2.2 + 1)))) (z0.2.1.length - (Int.toNat (w64 (z0.1.2.2.2 + 1))))))))))
 (.test (decide ((0 = 0) ∧ ((z14.2.length + (List.length (win z0.2.2.1 (0 + (Int.toNat (w64 (z0.1.2.2.2 + 1)))) (z0.2.2.1.length - (Int.toNat (w64 (z0.1.2.2.2 + 1))))))) = (List.length ((win z14.2 0 z14.2.length) ++ (win z0.2.2.1 (0 + (Int.toNat (w64 (z0.1.2.2.2 + 1)))) (z0.2.2.1.length - (Int.toNat (w64 (z0.1.2.2.2 + 1))))))))))
 (.test (decide ((0 = 0) ∧ ((z0.2.2.2.length + (List.length (win (List.set (List.replicate 1 ((0 : Int), (0 : Int))) 0 (z9, z12)) 0 1))) = (List.length ((win z0.2.2.2 0 z0.2.2.2.length) ++ (win (List.set (List.replicate 1 ((0 : Int), (0 : Int))) 0 (z9, z12)) 0 1))))))
 (.ret (Sum.inl (((), ((), ())), (((win z13.2 0 z13.2.length) ++ (win (List.set (List.set z0.2.1 (0 + (Int.toNat (Int.tmod (w64 ((w64 (z0.1.2.2.2 + (z0.2.1.length : Int))) - 1)) (z0.2.1.length : Int)))) (w64 (z1 - 1))) (0 + (Int.toNat (Int.tmod (w64 (z0.1.2.2.2 + 1)) (z0.2.1.length : Int)))) (w64 (z3 - 1))) (0 + (Int.toNat (w64 (z0.1.2.2.2 + 1)))) (z0.2.1.length - (Int.toNat (w64 (z0.1.2.2.2 + 1)))))), (((win z14.2 0 z14.2.length) ++ (win z0.2.2.1 (0 + (Int.toNat (w64 (z0.1.2.2.2 + 1)))) (z0.2.2.1.length - (Int.toNat (w64 (z0.1.2.2.2 + 1)))))), ((win z0.2.2.2 0 z0.2.2.2.length) ++ (win (List.set (List.replicate 1 ((0 : Int), (0 : Int))) 0 (z9, z12)) 0 1)))))))
 .fail)
 .fail)
 .fail)
 .fail)
 .fail)
 .fail)
 .fail)
 .fail))
 .fail)
 .fail)
 .fail)
 .fail)
 .fail)
 .fail)
 .fail)
 .fail))
 .fail)
 .fail)
 .fail)
 .fail)
 .fail)
 .fail)))
 .fail))
 .fail)))
 .fail))
 .fail)))
 .fail)))
 .fail))
 .fail))
 .fail))
 .fail))
 .fail)
 .fail)
 .fail)))
 .fail)
 .fail)
 .fail)
 .fail)
 (.test (decide ((0 = 0) ∧ (left.length = left.length)))
 (.test (decide ((0 = 0) ∧ (out.length = out.length)))
 (.ret (Sum.inr (Sum.inr (((), ()), (left, out)))))
 .fail)
 .fail))
noncomputable def F120_L10 (v) := loopO (fun v => (F120_L10_step v).run) v
def F120_fo : List FO := [⟨[(.one (.rw 0 0)), (.one .sb)], [(.row 0 (.pair (.int .i64) (.int .i64)))]⟩]
noncomputable def F120_t : List (Int) → T ((Unit × Bool) × List ((Int × Int))) := fun quiddity =>
 (.sub (F118 (quiddity.length : Int)) fun z0 =>
 (.test (! z0)
 (.test true
 (.ret (((), false), ([] : List (Int × Int))))
 .fail)
 (.sub (F102 (quiddity, ((1 : Int), (12 : Int)))) fun z1 =>
 (.test (! z1)
 (.test true
 (.ret (((), false), ([] : List (Int × Int))))
 .fail)
 (.sub (F101 quiddity) fun z2 =>
 (.test (decide ((0 = 0) ∧ (z2.2.length = z2.2.length)))
 (.test (decide ((0 = 0) ∧ (0 = (List.length (List.replicate 0 (0 : Int))))))
 (.sub (F120_L5 (((), ((), ((z2.2.length : Int), (0 : Int)))), (z2.2, (List.replicate 0 (0 : Int))))) fun z3 =>
 (.test (decide ((0 = 0) ∧ (z3.2.1.length = z3.2.1.length)))
 (.test (decide ((0 = 0) ∧ (z3.2.2.length = z3.2.2.length)))
 (.test (decide ((0 = 0) ∧ (0 = (List.length ([] : List (Int × Int))))))
 (.sub (F120_L10 (((), ((), ())), (z3.2.1, (z3.2.2, ([] : List (Int × Int)))))) fun z4 =>
 (.test (Sum.isLeft z4)
 (.sub (Sum.getLeft? z4) fun z5 =>
 (.test (decide ((0 = 0) ∧ (z5.2.length = z5.2.length)))
 (.ret (((), z5.1.2), z5.2))
 .fail))
 (.sub (Sum.getRight? z4) fun z6 =>
 (.test (decide ((0 + z6.2.2.length) ≤ z6.2.2.length))
 (.sub (F72 (win z6.2.2 0 z6.2.2.length)) fun z7 =>
 (.test (decide (((0 : Int) ≤ (0 : Int)) ∧ (0 < (z6.2.1.length : Int))))
 (.sub (z6.2.1[0]?) fun z8 =>
 (.test (z8 == 1)
 (.test (decide (((0 : Int) ≤ (1 : Int)) ∧ (1 < (z6.2.1.length : Int))))
 (.sub (z6.2.1[1]?) fun z9 =>
 (.test (z9 == 1)
 (.test (decide (((0 : Int) ≤ (2 : Int)) ∧ (2 < (z6.2.1.length : Int))))
 (.sub (z6.2.1[2]?) fun z10 =>
 (.test (decide ((0 = 0) ∧ (z7.2.length = z7.2.length)))
 (.ret (((), (z10 == 1)), z7.2))
 .fail))
 .fail)
 (.test (decide ((0 = 0) ∧ (z7.2.length = z7.2.length)))
 (.ret (((), false), z7.2))
 .fail)))
 .fail)
 (.test (decide ((0 = 0) ∧ (z7.2.length = z7.2.length)))
 (.ret (((), false), z7.2))
 .fail)))
 .fail))
 .fail))))
 .fail)
 .fail)
 .fail))
 .fail)
 .fail))))))
noncomputable def F120 (v) := (F120_t v).run
noncomputable def F120_E : TEnv := ((((((E0.add1 n_F118 F118_sh F118_fo F118).add1 n_F102 F102_sh F102_fo F102).add1 n_F101 F101_sh F101_fo F101).add1 n_F80 F80_sh F80_fo F80).add1 n_F88 F88_sh F88_fo F88).add1 n_F72 F72_sh F72_fo F72)
theorem F120_Eok : (F120_E).OK := ((((((E0ok.add1 F118_ok).add1 F102_ok).add1 F101_ok).add1 F80_ok).add1 F88_ok).add1 F72_ok)
noncomputable def F120_told : Nat → Option SealT := fun id => if id = 5 then some (LSh.told F120_L5_sh 0 (F120_L5_step)) else if id = 13 then some (LSh.told F120_L13_sh 0 (F120_L13_step)) else if id = 10 then some (LSh.told F120_L10_sh 0 (F120_L10_step)) else none
theorem F120_L5_ok : ToldOK Tryz.prog 0 (loopAt (bodyOf fn_F120) [0]) (LSh.told F120_L5_sh 0 (F120_L5_step)) :=
 loop_ok (E := F120_E) (F120_Eok) (told := F120_told) (l := F120_L5_sh) (step := F120_L5_step) (loopsOK_of (ls := []) (by kernel_rfl) trivial) (by kernel_rfl) (fun v => by kernel_rfl)
theorem F120_L13_ok : ToldOK Tryz.prog 0 (loopAt (bodyOf fn_F120) [1, 0]) (LSh.told F120_L13_sh 0 (F120_L13_step)) :=
 loop_ok (E := F120_E) (F120_Eok) (told := F120_told) (l := F120_L13_sh) (step := F120_L13_step) (loopsOK_of (ls := []) (by kernel_rfl) trivial) (by kernel_rfl) (fun v => by kernel_rfl)
theorem F120_L10_ok : ToldOK Tryz.prog 0 (loopAt (bodyOf fn_F120) [1]) (LSh.told F120_L10_sh 0 (F120_L10_step)) :=
 loop_ok (E := F120_E) (F120_Eok) (told := F120_told) (l := F120_L10_sh) (step := F120_L10_step) (loopsOK_of (ls := [loopAt (bodyOf fn_F120) [1, 0]]) (by kernel_rfl) ⟨.inr ⟨_, by kernel_rfl, F120_L13_ok⟩, trivial⟩) (by kernel_rfl) (fun v => by kernel_rfl)
theorem F120_ok : FOK Tryz.prog n_F120 F120_sh F120_fo F120 :=
 fn_ok (E := F120_E) (F120_Eok) (told := F120_told) (fl := []) (c := bodyOf fn_F120) (s := F120_sh) (l := F120_fo) (tree := F120_t) fnat_F120 (by kernel_rfl) (by kernel_rfl) (by kernel_rfl) (loopsOK_of (ls := [loopAt (bodyOf fn_F120) [0], loopAt (bodyOf fn_F120) [1]]) (by kernel_rfl) ⟨.inr ⟨_, by kernel_rfl, F120_L5_ok⟩, ⟨.inr ⟨_, by kernel_rfl, F120_L10_ok⟩, trivial⟩⟩) (fun v => by kernel_rfl)
theorem F120_names (left : List Int) (hl : left.length < 1000000) : F120_L5 (((), ((), ((left.length : Int), (0 : Int)))), (left, [])) = some (((), ()), (left, nameL left.length)) := by
 have key : ∀ m k, k + m = left.length → F120_L5 (((), ((), ((left.length : Int), (k : Int)))), (left, nameL k)) = some (((), ()), (left, nameL left.length)) := by
  intro m
  induction m with
  | zero =>
   intro k hk
   have : k = left.length := by omega
   subst this
   simp only [F120_L5]
   exact loopO_done (by simp [F120_L5_step, T.run])
  | succ m ih =>
   intro k hk
   have ih := ih (k + 1) (by omega)
   simp only [F120_L5] at ih ⊢
   rw [← ih]
   refine loopO_next ?_
   have c0 : (k : Int) < (left.length : Int) := by omega
   have w1 : w64 ((k : Int) + 1) = ((k + 1 : Nat) : Int) := by rw [w64_id (by omega) (by omega)]; omega
   have hw : win (nameL k) 0 k = nameL k := by have := win_all (nameL k); rwa [nameL_length] at this
   have c1 : 2 * ((k + 1) * 9) ≤ 140737488355328 := by omega
   have hs : nameL k ++ [(k : Int)] = nameL (k + 1) := (nameL_succ k).symm
   simp only [F120_L5_step, T.run, c0, decide_true, if_true, win_one, nameL_length, hw, w1, List.length_cons, List.length_nil, c1, hs, Nat.zero_add]
   simp [c1]
 simpa [nameL] using key left.length 0 (by omega)
theorem F120_first (left corners : List Int) (out : List Dg) (hl : left.length < 1000000) :
  F120_L13 (((), ((), ((), ((-1), ((), ((left.length : Int), (0 : Int))))))), (left, (corners, out))) = some (((), ((), ((), idxI (fun x => (1 : Int) == x) left))), (left, (corners, out))) := by
 have key : ∀ m k (at' : Int), k + m = left.length → (at' < 0 → at' = -1) → F120_L13 (((), ((), ((), (at', ((), ((left.length : Int), (k : Int))))))), (left, (corners, out))) =
   some (((), ((), ((), if at' < 0 then (match (left.drop k).findIdx? (fun x => (1 : Int) == x) with | some i => ((k + i : Nat) : Int) | none => -1) else at'))), (left, (corners, out))) := by
  intro m
  induction m with
  | zero =>
   intro k at' hk ha
   have : k = left.length := by omega
   subst this
   rw [List.drop_length]
   simp only [F120_L13]
   refine loopO_done ?_
   by_cases h : at' < 0
   ·have := ha h; subst this; simp [F120_L13_step, T.run]
   ·simp [F120_L13_step, T.run, h]
  | succ m ih =>
   intro k at' hk ha
   have hlt : k < left.length := by omega
   have g0 := List.getElem?_eq_getElem hlt
   have c0 : (k : Int) < (left.length : Int) := by omega
   have c1 : (0 : Int) ≤ (k : Int) ∧ (k : Int) < (left.length : Int) := by omega
   have w1 : w64 ((k : Int) + 1) = ((k + 1 : Nat) : Int) := by rw [w64_id (by omega) (by omega)]; omega
   rw [List.drop_eq_getElem_cons hlt, List.findIdx?_cons]
   have st : (F120_L13_step (((), ((), ((), (at', ((), ((left.length : Int), (k : Int))))))), (left, (corners, out)))).run =
     some (.inl (((), ((), ((), ((if (left[k] == 1) = true ∧ at' < 0 then (k : Int) else at'), ((), ((left.length : Int), ((k + 1 : Nat) : Int))))))), (left, (corners, out)))) := by
    simp only [F120_L13_step, T.run, c0, c1, decide_true, if_true, and_self, Int.toNat_natCast, Nat.zero_add, g0, Option.bind_some, w1]
    cases hb : left[k] == 1 <;> by_cases h : at' < 0 <;> simp [h]
   have ih' := ih (k + 1) (if (left[k] == 1) = true ∧ at' < 0 then (k : Int) else at') (by omega) (by split <;> omega)
   simp only [F120_L13] at ih' ⊢
   rw [loopO_next st, ih']
   have hsym : ((1 : Int) == left[k]) = (left[k] == 1) := by rw [beq_int, beq_int]; congr 1; exact propext eq_comm
   rw [hsym]
   cases hb : left[k] == 1 with
   | true =>
    by_cases h : at' < 0
    ·have : ¬ ((k : Int) < 0) := by omega
     simp [h, this]
    ·simp [h]
   | false =>
    by_cases h : at' < 0
    ·simp only [Bool.false_eq_true, false_and, if_false, h, if_true]
     cases (left.drop (k + 1)).findIdx? (fun x => (1 : Int) == x) with
     | none => rfl
     | some i => simp only [Option.map_some]; rw [show k + 1 + i = k + (i + 1) by omega]
    ·simp [h]
 have := key left.length 0 (-1) (by omega) (fun _ => rfl)
 rw [Int.natCast_zero, List.drop_zero] at this
 rw [this]
 simp only [idxI]
 simp
 rfl
theorem F120_cut (left names : List Int) (out : List Dg) (k i : Nat) (hk : k < 100000) (hl : left.length = k + 4) (hn : names.length = k + 4) (ho : out.length < 100000) (he : ear left = some i) :
  (F120_L10_step (((), ((), ())), (left, (names, out)))).run = some (if okC left i then .inl (((), ((), ())), (cutL left i, (names.eraseIdx i, out ++ [cutD names i]))) else .inr (.inl (((), false), []))) := by
 obtain ⟨hi, _⟩ := ear_lt he
 obtain ⟨n1, n2, n3, n4, n5, n6⟩ := nb_facts (by omega : 3 ≤ left.length) hi
 obtain ⟨t1, t2⟩ := nb_tmod (by omega : 3 ≤ left.length) (by omega) hi
 have hf := F120_first left names out (by omega)
 have hii : idxI (fun x => (1 : Int) == x) left = (i : Int) := by unfold idxI; unfold ear at he; rw [he]
 rw [hii] at hf
 have c0 : (left.length : Int) > 3 := by omega
 have c1 : ¬ ((i : Int) < 0) := by omega
 have c2 : (left.length : Int) ≠ 0 := by omega
 have c3 : (0 : Int) ≤ (nbB left.length i : Int) ∧ (nbB left.length i : Int) < (left.length : Int) := by omega
 have c4 : (0 : Int) ≤ (nbC left.length i : Int) ∧ (nbC left.length i : Int) < (left.length : Int) := by omega
 have c5 : (0 : Int) ≤ (nbB left.length i : Int) ∧ (nbB left.length i : Int) < (names.length : Int) := by omega
 have c6 : (0 : Int) ≤ (nbC left.length i : Int) ∧ (nbC left.length i : Int) < (names.length : Int) := by omega
 have g1 := set_getD n1
 have g2 : (left.set (nbB left.length i) (w64 (left.getD (nbB left.length i) 0 - 1)))[nbC left.length i]? = some ((decAt left (nbB left.length i)).getD (nbC left.length i) 0) := set_getD (by simpa using n2)
 have g2' : (decAt left (nbB left.length i)).getD (nbC left.length i) 0 = left.getD (nbC left.length i) 0 := by
  unfold decAt
  simp only [List.getD_eq_getElem?_getD]
  rw [List.getElem?_set_ne n5]
 have g3 := set_getD (l := names) (p := nbB left.length i) (by omega)
 have g4 := set_getD (l := names) (p := nbC left.length i) (by omega)
 have w1 : w64 ((i : Int) + 1) = ((i + 1 : Nat) : Int) := by rw [w64_id (by omega) (by omega)]; omega
 rw [w1] at t2
 have hD' : (min (names.getD (nbB left.length i) 0) (names.getD (nbC left.length i) 0), max (names.getD (nbB left.length i) 0) (names.getD (nbC left.length i) 0)) = cutD names i := by unfold cutD; rw [hl, hn]
 have hmin : ∀ a b, F80 (a, b) = some (min a b) := by
  intro a b
  simp only [F80, F80_t, T.run]
  by_cases h : a < b <;> simp [h] <;> omega
 have hmax : ∀ a b, F88 (a, b) = some (max a b) := by
  intro a b
  simp only [F88, F88_t, T.run]
  by_cases h : a > b <;> simp [h] <;> omega
 have c7 : 2 * ((out.length + 1) * 17) ≤ 140737488355328 := by omega
 have l1 : (decAt (decAt left (nbB left.length i)) (nbC left.length i)).length = left.length := by rw [decAt_length, decAt_length]
 have e1 : left.set (nbB left.length i) (w64 (left.getD (nbB left.length i) 0 - 1)) = decAt left (nbB left.length i) := rfl
 have e2 : (decAt left (nbB left.length i)).set (nbC left.length i) (w64 (left.getD (nbC left.length i) 0 - 1)) = decAt (decAt left (nbB left.length i)) (nbC left.length i) := by unfold decAt; rw [← decAt, g2']
 have g5 : (decAt (decAt left (nbB left.length i)) (nbC left.length i))[nbB left.length i]? = some (w64 (left.getD (nbB left.length i) 0 - 1)) := by
  conv => lhs; unfold decAt
  rw [List.getElem?_set_ne (Ne.symm n5), List.getElem?_set_self n1]
 have g6 : (decAt (decAt left (nbB left.length i)) (nbC left.length i))[nbC left.length i]? = some (w64 (left.getD (nbC left.length i) 0 - 1)) := by
  rw [← e2, List.getElem?_set_self (by rw [decAt_length]; exact n2)]
 rw [e1, g2'] at g2
 have htl : ((decAt (decAt left (nbB left.length i)) (nbC left.length i)).take i).length = i := by rw [List.length_take, l1]; omega
 have htn : (names.take i).length = i := by rw [List.length_take]; omega
 have own1 := F101_eq ((decAt (decAt left (nbB left.length i)) (nbC left.length i)).take i) (by rw [htl]; omega)
 have own2 := F101_eq (names.take i) (by rw [htn]; omega)
 have d1 : win (decAt (decAt left (nbB left.length i)) (nbC left.length i)) (i + 1) (left.length - (i + 1)) = (decAt (decAt left (nbB left.length i)) (nbC left.length i)).drop (i + 1) := by
  unfold win; rw [List.take_of_length_le (by rw [List.length_drop, l1]; omega)]
 have d2 : win names (i + 1) (names.length - (i + 1)) = names.drop (i + 1) := by
  unfold win; rw [List.take_of_length_le (by rw [List.length_drop]; omega)]
 have x1 : (decAt (decAt left (nbB left.length i)) (nbC left.length i)).take i ++ (decAt (decAt left (nbB left.length i)) (nbC left.length i)).drop (i + 1) = cutL left i := take_drop_erase _ _
 have x2 : names.take i ++ names.drop (i + 1) = names.eraseIdx i := take_drop_erase _ _
 have f1 : (0 : Int) ≤ (i : Int) := by omega
 have f2 : 0 ≤ i ∧ i ≤ left.length := by omega
 have f3 : i ≤ left.length := by omega
 have f4 : (0 : Int) ≤ ((i + 1 : Nat) : Int) := by omega
 have f5 : i + 1 ≤ left.length ∧ left.length ≤ left.length := by omega
 have f6 : i + 1 + (left.length - (i + 1)) ≤ left.length := by omega
 have f7 : 2 * ((i + (left.length - (i + 1))) * 9) ≤ 140737488355328 := by omega
 have f8 : 0 ≤ i ∧ i ≤ names.length := by omega
 have f9 : i ≤ names.length := by omega
 have f10 : i + 1 ≤ names.length ∧ names.length ≤ names.length := by omega
 have f11 : i + 1 + (names.length - (i + 1)) ≤ names.length := by omega
 have f12 : 2 * ((i + (names.length - (i + 1))) * 9) ≤ 140737488355328 := by omega
 have f13 : i + (left.length - (i + 1)) = (cutL left i).length := by rw [cutL_length hi]; omega
 have f14 : i + (names.length - (i + 1)) = (names.eraseIdx i).length := by rw [List.length_eraseIdx, if_pos (by omega)]; omega
 have x1' := x1
 have x2' := x2
 simp only [F120_L10_step, T.run, c0, decide_true, if_true, Nat.zero_add, Nat.le_refl, hf, Option.bind_some, c1, decide_false, Bool.false_eq_true, if_false, c2, ne_eq, not_false_eq_true, t1, t2, c3, c4, c5, c6, and_self, Int.toNat_natCast, g1, e1, g2, e2, g3, g4, g5, g6, hmin, hmax, hD', win_one, w1, l1, true_and, win_take, Nat.sub_zero, f1, f2, f3, f4, own1, own2, htl, htn, d1, d2]
 have tk : ∀ {X : Type} (l : List X), (l.take i).take i = l.take i := fun l => by rw [List.take_take, Nat.min_self]
 have dl1 : ((decAt (decAt left (nbB left.length i)) (nbC left.length i)).drop (i + 1)).length = left.length - (i + 1) := by rw [List.length_drop, l1]
 have dl2 : (names.drop (i + 1)).length = names.length - (i + 1) := by rw [List.length_drop]
 have t1' : List.take 1 ((List.replicate 1 ((0 : Int), (0 : Int))).set 0 (cutD names i)) = [cutD names i] := rfl
 have t2' : ((List.replicate 1 ((0 : Int), (0 : Int))).set 0 (cutD names i)).length = 1 := rfl
 have f5' : i + 1 ≤ left.length := by omega
 have f7' : 2 * ((cutL left i).length * 9) ≤ 140737488355328 := by rw [← f13]; exact f7
 have f12' : 2 * ((names.eraseIdx i).length * 9) ≤ 140737488355328 := by rw [← f14]; exact f12
 have f10' : i + 1 ≤ names.length := by omega
 simp only [tk, dl1, dl2, t1', t2', List.take_length, x1, x2, f5', f6, f7, f7', f9, f10', f11, f12, f12', f13, f14, and_true, decide_true, if_true, List.length_cons, List.length_nil, Nat.zero_add, c7, List.length_append, Nat.le_refl]
 unfold okC
 by_cases h1 : w64 (left.getD (nbB left.length i) 0 - 1) < 1
 ·have h1' : ¬ (1 ≤ w64 (left.getD (nbB left.length i) 0 - 1)) := by omega
  simp only [h1, h1', decide_true, if_true, false_and, decide_false, Bool.false_eq_true, if_false]
 ·have h1' : 1 ≤ w64 (left.getD (nbB left.length i) 0 - 1) := by omega
  by_cases h2 : w64 (left.getD (nbC left.length i) 0 - 1) < 1
  ·have h2' : ¬ (1 ≤ w64 (left.getD (nbC left.length i) 0 - 1)) := by omega
   simp only [h1, h1', h2, h2', decide_true, if_true, and_false, decide_false, Bool.false_eq_true, if_false]
  ·have h2' : 1 ≤ w64 (left.getD (nbC left.length i) 0 - 1) := by omega
   simp only [h1, h1', h2, h2', decide_true, if_true, and_self, decide_false, Bool.false_eq_true, if_false]
theorem F120_cuts : ∀ (k : Nat) (left names : List Int) (out : List Dg), k < 1000 → left.length = k + 3 → names.length = k + 3 → out.length + k < 10000 →
  F120_L10 (((), ((), ())), (left, (names, out))) = some (match triSW k left names with
   | none => .inl (((), false), [])
   | some r => .inr (((), ()), (r.1, out ++ r.2)))
 | 0, left, names, out, hk, hl, hn, ho => by
  simp only [F120_L10, triSW]
  refine loopO_done ?_
  have c0 : ¬ ((left.length : Int) > 3) := by omega
  simp [F120_L10_step, T.run, c0]
 | k + 1, left, names, out, hk, hl, hn, ho => by
  cases he : ear left with
  | none =>
   have hf := F120_first left names out (by omega)
   have hii : idxI (fun x => (1 : Int) == x) left = -1 := by unfold idxI; unfold ear at he; rw [he]
   rw [hii] at hf
   have c0 : (left.length : Int) > 3 := by omega
   simp only [F120_L10, triSW, he]
   refine loopO_done ?_
   simp only [F120_L10_step, T.run, c0, decide_true, if_true, hf, Option.bind_some, true_and]
   simp
  | some i =>
   have st := F120_cut left names out k i (by omega) (by omega) (by omega) (by omega) he
   simp only [F120_L10, triSW, he] at st ⊢
   cases hok : okC left i with
   | false =>
    rw [hok] at st
    rw [loopO_done st]
    rfl
   | true =>
    rw [hok] at st
    have hlc := cutL_length (ear_lt he).1
    have ih := F120_cuts k (cutL left i) (names.eraseIdx i) (out ++ [cutD names i]) (by omega) (by omega) (by rw [List.length_eraseIdx, if_pos (by have := (ear_lt he).1; omega)]; omega) (by simp; omega)
    simp only [F120_L10] at ih
    rw [loopO_next st, ih]
    cases triSW k (cutL left i) (names.eraseIdx i) with
    | none => rfl
    | some r => simp
theorem F120_eq (l : List Int) (hl : l.length < 4611686018427387904) : ∃ r, r.length ≤ 9 ∧ F120 l = some (match trOf l with | some ds => (((), true), ds) | none => (((), false), r)) ∧ ((trOf l).isSome → ∀ ds, trOf l = some ds → ds.length ≤ 9) := by
 have hdl : ∀ ds, trOf l = some ds → ds.length ≤ 9 := by
  intro ds h
  unfold trOf at h
  split at h
  ·rename_i hn
   rw [inB_iff] at hn
   split at h
   ·rename_i es hT
    split at h
    ·cases h
     rw [sortD_length, (tri_good _ _ _ _ (nameL_sorted _) (by omega) (by rw [nameL_length]; omega) hT).1]
     omega
    ·cases h
   ·cases h
  ·cases h
 simp only [F120, F120_t, T.run, F118, F118_t, F117_eq, Option.bind_some]
 cases hn : inB 3 12 (l.length : Int) with
 | false => exact ⟨[], by simp, by simp [trOf, hn], fun _ => hdl⟩
 | true =>
  have hn' := inB_iff.1 hn
  rw [F102_eq l 1 12 hl]
  cases ha : l.all (inB 1 12) with
  | false => exact ⟨[], by simp, by simp [trOf_bad l ha], fun _ => hdl⟩
  | true =>
   have hown := F101_eq l (by omega)
   have h5 := F120_names l (by omega)
   have h10 := F120_cuts (l.length - 3) l (nameL l.length) [] (by omega) (by omega) (by rw [nameL_length]; omega) (by simp; omega)
   have htri := triS_W (l.length - 3) l (nameL l.length)
   have hsp := trOf_spec l ha hn
   simp only [Bool.not_true, Bool.false_eq_true, if_false, Option.bind_some, hown, List.replicate_zero, List.length_nil, true_and, decide_true, if_true, h5, h10]
   cases hW : triSW (l.length - 3) l (nameL l.length) with
   | none =>
    rw [htri, hW] at hsp
    exact ⟨[], by simp, by rw [← hsp]; simp, fun _ => hdl⟩
   | some r =>
    obtain ⟨l3, ds⟩ := r
    obtain ⟨g1, g2⟩ := triSW_len _ _ _ _ (by omega) hW
    simp only at g1 g2
    rw [htri, hW] at hsp
    have hs := F72_eq ds (by omega)
    have hls := sortD_length ds
    match l3, g1 with
    | [a, b, c], _ =>
     refine ⟨sortD ds, by omega, ?_, fun _ => hdl⟩
     rw [← hsp]
     simp only [Sum.isLeft, Sum.getRight?, Option.bind_some, Bool.false_eq_true, if_false, List.nil_append, Nat.zero_add, Nat.le_refl, decide_true, if_true, win_all, hs]
     by_cases ea : a = 1 <;> by_cases eb : b = 1 <;> by_cases ec : c = 1 <;> simp [ea, eb, ec]
def F46_sh : FSh := ⟨[(.one (.pf 0 0 0)), (.one (.sl (.int .i64) false false))], [(.rcd 0 [(.sl (.int .u8) false true), (.si .i64), (.si .u64)])]⟩
def F46_fo : List FO := [⟨[(.one (.si .i64))], [(.rcd 0 [(.sl (.int .u8) false true), (.si .i64), (.si .u64)])]⟩]
noncomputable def F46_t : ((Unit × List (Int)) × (List (Int) × Int × Int)) → T (Int × (List (Int) × Int × Int)) := fun (((), list), (c_0, c_1, c_2)) =>
 (.sub (F56 (((), (list.length : Int)), (c_0, (c_1, c_2)))) fun z0 =>
 (.test (decide ((0 ≤ z0.1) ∧ (z0.1 < (list.length : Int))))
 (.sub (list[(Int.toNat z0.1)]?) fun z1 =>
 (.ret (z1, (z0.2.1, (z0.2.2.1, z0.2.2.2)))))
 .fail))
noncomputable def F46 (v) := (F46_t v).run
noncomputable def F46_E : TEnv := (E0.add1 n_F56 F56_sh F56_fo F56)
theorem F46_Eok : (F46_E).OK := (E0ok.add1 F56_ok)
noncomputable def F46_told : Nat → Option SealT := fun id => none
theorem F46_ok : FOK Tryz.prog n_F46 F46_sh F46_fo F46 :=
 fn_ok (E := F46_E) (F46_Eok) (told := F46_told) (fl := []) (c := bodyOf fn_F46) (s := F46_sh) (l := F46_fo) (tree := F46_t) fnat_F46 (by kernel_rfl) (by kernel_rfl) (by kernel_rfl) (loopsOK_of (ls := []) (by kernel_rfl) trivial) (fun v => by kernel_rfl)
def F38_sh : FSh := ⟨[(.one (.pf 0 0 0)), (.one (.si .i64))], [(.rcd 0 [(.sl (.int .u8) false true), (.si .i64), (.si .u64)])]⟩
def F38_fo : List FO := [⟨[(.one (.si .i64)), (.one (.rw 1 0))], [(.rcd 0 [(.sl (.int .u8) false true), (.si .i64), (.si .u64)]), (.row 0 (.pair (.int .i64) (.int .i64)))]⟩]
noncomputable def F38_t : ((Unit × Int) × (List (Int) × Int × Int)) → T ((Int × Unit) × ((List (Int) × Int × Int) × List ((Int × Int)))) := fun (((), most), (c_0, c_1, c_2)) =>
 (.sub (F56 (((), (w64 (most - 2))), (c_0, (c_1, c_2)))) fun z0 =>
 (.sub (F22 (((), (w64 (3 + z0.1))), z0.2)) fun z1 =>
 (.test (decide ((0 + z1.2.2.length) ≤ z1.2.2.length))
 (.sub (F120 (win z1.2.2 0 z1.2.2.length)) fun z2 =>
 (.sub (F56 (((), (16 : Int)), z1.2.1)) fun z3 =>
 (.test (z3.1 == 0)
 (.test (decide ((z2.2.length : Int) > 0))
 (.sub (F56 (((), (z2.2.length : Int)), z3.2)) fun z4 =>
 (.test true
 (.sub (F46 (((), [(-1), (0 : Int), (1 : Int)]), z4.2)) fun z5 =>
 (.test (decide (5 ≤ 5))
 (.sub (F46 (((), [(1 : Int), (2 : Int), (3 : Int), (w64 (3 + z0.1)), (4611686018427387904 : Int)]), z5.2)) fun z6 =>
 (.test (decide ((0 ≤ z4.1) ∧ (z4.1 < (z2.2.length : Int))))
 (.sub (z2.2[(0 + (Int.toNat z4.1))]?) fun z7 =>
 (.test (decide ((0 = 0) ∧ (z2.2.length = (List.length (List.set z2.2 (0 + (Int.toNat z4.1)) (z5.1, z6.1))))))
 (.ret (((w64 (3 + z0.1)), ()), (z6.2, (List.set z2.2 (0 + (Int.toNat z4.1)) (z5.1, z6.1)))))
 .fail))
 .fail))
 .fail))
 .fail))
 (.test (decide ((0 = 0) ∧ (z2.2.length = z2.2.length)))
 (.ret (((w64 (3 + z0.1)), ()), (z3.2, z2.2)))
 .fail))
 (.test (z3.1 == 1)
 (.test (decide (4 ≤ 4))
 (.sub (F46 (((), [(-1), (2 : Int), (w64 ((w64 (3 + z0.1)) + 1)), (4611686018427387904 : Int)]), z3.2)) fun z8 =>
 (.test (decide ((0 = 0) ∧ (z2.2.length = z2.2.length)))
 (.ret ((z8.1, ()), (z8.2, z2.2)))
 .fail))
 .fail)
 (.test (z3.1 == 2)
 (.test true
 (.test (decide ((0 + z2.2.length) ≤ z2.2.length))
 (.test (decide ((2 * ((z2.2.length + 1) * 17)) ≤ 140737488355328))
 (.test (decide ((0 = 0) ∧ ((z2.2.length + 1) = (List.length ((win z2.2 0 z2.2.length) ++ [((0 : Int), (2 : Int))])))))
 (.ret (((w64 (3 + z0.1)), ()), (z3.2, ((win z2.2 0 z2.2.length) ++ [((0 : Int), (2 : Int))]))))
 .fail)
 .fail)
 .fail)
 .fail)
 (.test (decide ((0 = 0) ∧ (z2.2.length = z2.2.length)))
 (.ret (((w64 (3 + z0.1)), ()), (z3.2, z2.2)))
 .fail))))))
 .fail)))
noncomputable def F38 (v) := (F38_t v).run
noncomputable def F38_E : TEnv := ((((E0.add1 n_F56 F56_sh F56_fo F56).add1 n_F22 F22_sh F22_fo F22).add1 n_F120 F120_sh F120_fo F120).add1 n_F46 F46_sh F46_fo F46)
theorem F38_Eok : (F38_E).OK := ((((E0ok.add1 F56_ok).add1 F22_ok).add1 F120_ok).add1 F46_ok)
noncomputable def F38_told : Nat → Option SealT := fun id => none
theorem F38_ok : FOK Tryz.prog n_F38 F38_sh F38_fo F38 :=
 fn_ok (E := F38_E) (F38_Eok) (told := F38_told) (fl := []) (c := bodyOf fn_F38) (s := F38_sh) (l := F38_fo) (tree := F38_t) fnat_F38 (by kernel_rfl) (by kernel_rfl) (by kernel_rfl) (loopsOK_of (ls := []) (by kernel_rfl) trivial) (fun v => by kernel_rfl)
def ltL : List Int → List Int → Bool
 | [], [] => false
 | [], _ :: _ => true
 | _ :: _, [] => false
 | x :: a, y :: b => if x < y then true else if y < x then false else ltL a b
def leL (a b : List Int) : Bool := !ltL b a
theorem ltL_irr : ∀ a : List Int, ltL a a = false
 | [] => rfl
 | x :: a => by simp [ltL, ltL_irr a]
theorem ltL_trans : ∀ {a b c : List Int}, ltL a b = true → ltL b c = true → ltL a c = true
 | [], [], c, h, _ => by simp [ltL] at h
 | [], y :: b, [], _, h => by simp [ltL] at h
 | [], y :: b, z :: c, _, _ => rfl
 | x :: a, [], c, h, _ => by simp [ltL] at h
 | x :: a, y :: b, [], _, h => by simp [ltL] at h
 | x :: a, y :: b, z :: c, h1, h2 => by
  unfold ltL at h1 h2 ⊢
  by_cases g1 : x < y
  ·by_cases g2 : y < z
   ·rw [if_pos (by omega)]
   ·rw [if_neg g2] at h2
    by_cases g3 : z < y
    ·rw [if_pos g3] at h2; cases h2
    ·rw [if_pos (by omega)]
  ·rw [if_neg g1] at h1
   by_cases g4 : y < x
   ·rw [if_pos g4] at h1; cases h1
   ·rw [if_neg g4] at h1
    have e : x = y := by omega
    subst e
    by_cases g2 : x < z
    ·rw [if_pos g2]
    ·rw [if_neg g2] at h2 ⊢
     by_cases g3 : z < x
     ·rw [if_pos g3] at h2; cases h2
     ·rw [if_neg g3] at h2 ⊢
      exact ltL_trans h1 h2
theorem ltL_tot : ∀ {a b : List Int}, ltL a b = false → ltL b a = false → a = b
 | [], [], _, _ => rfl
 | [], y :: b, h, _ => by simp [ltL] at h
 | x :: a, [], _, h => by simp [ltL] at h
 | x :: a, y :: b, h1, h2 => by
  unfold ltL at h1 h2
  by_cases g1 : x < y
  ·rw [if_pos g1] at h1; cases h1
  ·rw [if_neg g1] at h1
   by_cases g2 : y < x
   ·rw [if_pos g2] at h2; cases h2
   ·rw [if_neg g2] at h1 h2
    rw [if_neg g1] at h2
    rw [show x = y by omega, ltL_tot h1 h2]
theorem leL_tot (a b : List Int) : (leL a b || leL b a) = true := by
 unfold leL
 cases h1 : ltL b a with
 | false => rfl
 | true =>
  cases h2 : ltL a b with
  | false => rfl
  | true =>
   have := ltL_trans h1 h2
   rw [ltL_irr] at this
   cases this
theorem leL_trans {a b c : List Int} (h1 : leL a b = true) (h2 : leL b c = true) : leL a c = true := by
 unfold leL at h1 h2 ⊢
 simp only [Bool.not_eq_true'] at h1 h2 ⊢
 cases h : ltL c a with
 | false => rfl
 | true =>
  exfalso
  cases h3 : ltL a b with
  | true => have := ltL_trans h h3; rw [this] at h2; cases h2
  | false =>
   have := ltL_tot h3 h1
   subst this
   rw [h] at h2; cases h2
def sortL (l : List (List Int)) : List (List Int) := l.mergeSort leL
theorem sortL_perm (l : List (List Int)) : (sortL l).Perm l := List.mergeSort_perm l leL
theorem sortL_up (l : List (List Int)) : (sortL l).Pairwise fun a b => leL a b = true := List.pairwise_mergeSort (le := leL) (fun _ _ _ => leL_trans) leL_tot l
theorem sortL_unique {l m : List (List Int)} (h : m.Pairwise fun a b => leL a b = true) (hp : m.Perm l) : m = sortL l :=
 List.Perm.eq_of_pairwise (fun a b _ _ h1 h2 => ltL_tot (by simpa [leL] using h2) (by simpa [leL] using h1)) h (sortL_up l) (hp.trans (sortL_perm l).symm)
def dgL (n : Nat) : List Dg := (List.range n).flatMap fun (a : Nat) => (((List.range n).map fun (b : Nat) => ((a : Int), (b : Int))).filter fun d => inDg n d)
def rowD (n a b : Nat) : List Dg := (((List.range n).drop b).map fun (b : Nat) => ((a : Int), (b : Int))).filter fun d => inDg n d
theorem rowD_end (n a : Nat) : rowD n a n = [] := by
 unfold rowD
 rw [List.drop_of_length_le (by simp)]
 rfl
theorem rowD_step {n a b : Nat} (h : b < n) : rowD n a b = (if inDg n ((a : Int), (b : Int)) then [((a : Int), (b : Int))] else []) ++ rowD n a (b + 1) := by
 unfold rowD
 rw [List.drop_eq_getElem_cons (by simpa using h), List.map_cons, List.filter_cons, List.getElem_range]
 split <;> rfl
theorem inDg_iff {n : Int} {d : Dg} : inDg n d = true ↔ (0 ≤ d.1 ∧ d.1 ≤ n - 1) ∧ (0 ≤ d.2 ∧ d.2 ≤ n - 1) ∧ d.2 - d.1 > 1 ∧ ¬ (d.1 = 0 ∧ d.2 = n - 1) := by
 unfold inDg
 simp [inB_iff, and_assoc]
 intros
 omega
theorem rowD_front (n a : Nat) : ∀ k, k ≤ a + 2 → rowD n a 0 = rowD n a k
 | 0, _ => rfl
 | k + 1, h => by
  rw [rowD_front n a k (by omega)]
  by_cases hk : k < n
  ·rw [rowD_step hk, if_neg, List.nil_append]
   rw [inDg_iff]
   simp only []
   omega
  ·unfold rowD
   rw [List.drop_of_length_le (by simp; omega), List.drop_of_length_le (by simp; omega)]
theorem dgL_rows (n : Nat) : dgL n = (List.range n).flatMap fun a => rowD n a 0 := rfl
theorem rowD_len (n a b : Nat) : (rowD n a b).length ≤ n := by
 unfold rowD
 exact Nat.le_trans (List.length_filter_le ..) (by simp)
def rowsD (n a : Nat) : List Dg := ((List.range n).drop a).flatMap fun a => rowD n a 0
theorem rowsD_end (n : Nat) : rowsD n n = [] := by unfold rowsD; rw [List.drop_of_length_le (by simp)]; rfl
theorem rowsD_step {n a : Nat} (h : a < n) : rowsD n a = rowD n a 0 ++ rowsD n (a + 1) := by
 unfold rowsD
 rw [List.drop_eq_getElem_cons (by simpa using h), List.flatMap_cons, List.getElem_range]
theorem quid_length (n : Nat) (ds : List Dg) : (quid n ds).length = n := by simp [quid]
end Go.Proofs.W
