/- Functions of the program, walked, and what they compute. -/
import Derived.Test.YtaanfhjiihekeaaGreatPmWk2
set_option linter.unusedVariables false
set_option linter.unusedSimpArgs false
set_option maxRecDepth 100000
set_option maxHeartbeats 4000000
namespace Go.Proofs.W
open Go Go.Gm Go.Proofs
open Go.RowKit Go.Shelf
def F86_sh : FSh := ⟨[(.one (.sl (.pair (.int .i64) (.int .i64)) false false))], []⟩

def F86_L6_sh : LSh := ⟨(fun ex => match ex with | .norm => [(3, none), (5, none), (6, none), (8, none), (9, none), (10, none)] | .exit i => if i = 2 then [(3, none), (5, none), (6, none), (8, none), (9, none), (10, none)] else if i = 1 then [(3, none), (8, none), (9, none), (10, none)] else if i = 0 then [(3, none)] else [] | .ret => [(2, none)]), [(3, (.one (.rw 0 0))), (5, (.one (.pf 1 0 0))), (6, (.one (.si .i64))), (8, (.one (.sl (.pair (.int .i64) (.int .i64)) false false))), (9, (.one (.si .i64))), (10, (.one (.si .i64)))], [(.row 0 (.pair (.int .i64) (.int .i64))), (.rcd 0 [(.si .i64), (.si .i64)])], [⟨(.exit 2), [(3, (.one (.rw 0 0))), (5, (.one (.pf 1 0 0))), (6, (.one (.si .i64))), (8, (.one (.sl (.pair (.int .i64) (.int .i64)) false false))), (9, (.one (.si .i64))), (10, (.one (.si .i64)))], [(.row 0 (.pair (.int .i64) (.int .i64))), (.rcd 0 [(.si .i64), (.si .i64)])]⟩], [], []⟩
noncomputable def F86_L6_step : ((Unit × Unit × Int × List ((Int × Int)) × Int × Int) × (List ((Int × Int)) × (Int × Int))) → T (((Unit × Unit × Int × List ((Int × Int)) × Int × Int) × (List ((Int × Int)) × (Int × Int))) ⊕ ((Unit × Unit × Int × List ((Int × Int)) × Int × Int) × (List ((Int × Int)) × (Int × Int)))) := fun (((), (), k, t8, t9, t10), (out, (d_0, d_1))) =>
 (.test (decide (k < ((List.length out) : Int)))
 (.test (decide ((0 ≤ k) ∧ (k < ((List.length out) : Int))))
 (.sub (out[(0 + (Int.toNat k))]?) fun z0 =>
 (.sub (F100 ((z0.1, z0.2), (d_0, d_1))) fun z1 =>
 (.test z1
 (.test (decide ((0 = 0) ∧ ((List.length out) = (List.length out))))
 (.ret (Sum.inl (((), ((), ((w64 (k + 1)), (t8, (t9, t10))))), (out, (d_0, d_1)))))
 .fail)
 (.test (decide ((0 = 0) ∧ ((List.length out) = (List.length out))))
 (.ret (Sum.inr (((), ((), (k, (t8, (t9, t10))))), (out, (d_0, d_1)))))
 .fail))))
 .fail)
 (.test (decide ((0 = 0) ∧ ((List.length out) = (List.length out))))
 (.ret (Sum.inr (((), ((), (k, (t8, (t9, t10))))), (out, (d_0, d_1)))))
 .fail))
noncomputable def F86_L6 (v : ((Unit × Unit × Int × List ((Int × Int)) × Int × Int) × (List ((Int × Int)) × (Int × Int)))) : Option ((Unit × Unit × Int × List ((Int × Int)) × Int × Int) × (List ((Int × Int)) × (Int × Int))) := loopO (fun v => (F86_L6_step v).run) v

def F86_L3_sh : LSh := ⟨(fun ex => match ex with | .norm => [(3, none), (8, none), (9, none), (10, none)] | .exit i => if i = 0 then [(3, none)] else [] | .ret => [(2, none)]), [(3, (.one (.rw 0 0))), (8, (.one (.sl (.pair (.int .i64) (.int .i64)) false false))), (9, (.one (.si .i64))), (10, (.one (.si .i64)))], [(.row 0 (.pair (.int .i64) (.int .i64)))], [⟨(.exit 0), [(3, (.one (.rw 0 0)))], [(.row 0 (.pair (.int .i64) (.int .i64)))]⟩], [], []⟩
noncomputable def F86_L3_step : ((Unit × List ((Int × Int)) × Int × Int) × List ((Int × Int))) → T (((Unit × List ((Int × Int)) × Int × Int) × List ((Int × Int))) ⊕ (Unit × List ((Int × Int)))) := fun (((), t8, t9, t10), out) =>
 (.test (decide (t10 < t9))
 (.test (decide ((0 ≤ t10) ∧ (t10 < ((List.length t8) : Int))))
 (.sub (t8[(Int.toNat t10)]?) fun z0 =>
 (.test (decide ((0 = 0) ∧ ((List.length out) = (List.length out))))
 (.sub (F86_L6 (((), ((), ((0 : Int), (t8, (t9, t10))))), (out, (z0.1, z0.2)))) fun z1 =>
 (.test (decide (0 ≤ z1.1.2.2.1))
 (.test (decide ((0 ≤ (Int.toNat z1.1.2.2.1)) ∧ ((Int.toNat z1.1.2.2.1) ≤ (List.length z1.2.1))))
 (.test (decide ((0 + ((Int.toNat z1.1.2.2.1) - 0)) ≤ (List.length z1.2.1)))
 (.test true
 (.test (decide ((2 * ((0 + (List.length (win z1.2.1 0 ((Int.toNat z1.1.2.2.1) - 0)))) * 17)) ≤ 140737488355328))
 (.test (decide (1 ≤ (List.length (List.set (List.replicate 1 ((0 : Int), (0 : Int))) 0 (z1.2.2.1, z1.2.2.2)))))
 (.test (decide ((0 + (0 + (List.length (win z1.2.1 0 ((Int.toNat z1.1.2.2.1) - 0))))) ≤ (List.length ((win (List.replicate 0 ((0 : Int), (0 : Int))) 0 0) ++ (win z1.2.1 0 ((Int.toNat z1.1.2.2.1) - 0))))))
 (.test (decide ((2 * (((0 + (List.length (win z1.2.1 0 ((Int.toNat z1.1.2.2.1) - 0)))) + (List.length (win (List.set (List.replicate 1 ((0 : Int), (0 : Int))) 0 (z1.2.2.1, z1.2.2.2)) 0 1))) * 17)) ≤ 140737488355328))
 (.test (decide (0 ≤ z1.1.2.2.1))
 (.test (decide (((Int.toNat z1.1.2.2.1) ≤ (List.length z1.2.1)) ∧ ((List.length z1.2.1) ≤ (List.length z1.2.1))))
 (.test (decide (((0 + (Int.toNat z1.1.2.2.1)) + ((List.length z1.2.1) - (Int.toNat z1.1.2.2.1))) ≤ (List.length z1.2.1)))
 (.test (decide ((0 + ((0 + (List.length (win z1.2.1 0 ((Int.toNat z1.1.2.2.1) - 0)))) + (List.length (win (List.set (List.replicate 1 ((0 : Int), (0 : Int))) 0 (z1.2.2.1, z1.2.2.2)) 0 1)))) ≤ (List.length ((win ((win (List.replicate 0 ((0 : Int), (0 : Int))) 0 0) ++ (win z1.2.1 0 ((Int.toNat z1.1.2.2.1) - 0))) 0 (0 + (List.length (win z1.2.1 0 ((Int.toNat z1.1.2.2.1) - 0))))) ++ (win (List.set (List.replicate 1 ((0 : Int), (0 : Int))) 0 (z1.2.2.1, z1.2.2.2)) 0 1)))))
 (.test (decide ((2 * ((((0 + (List.length (win z1.2.1 0 ((Int.toNat z1.1.2.2.1) - 0)))) + (List.length (win (List.set (List.replicate 1 ((0 : Int), (0 : Int))) 0 (z1.2.2.1, z1.2.2.2)) 0 1))) + (List.length (win z1.2.1 (0 + (Int.toNat z1.1.2.2.1)) ((List.length z1.2.1) - (Int.toNat z1.1.2.2.1))))) * 17)) ≤ 140737488355328))
 (.test (decide ((0 = 0) ∧ ((((0 + (List.length (win z1.2.1 0 ((Int.toNat z1.1.2.2.1) - 0)))) + (List.length (win (List.set (List.replicate 1 ((0 : Int), (0 : Int))) 0 (z1.2.2.1, z1.2.2.2)) 0 1))) + (List.length (win z1.2.1 (0 + (Int.toNat z1.1.2.2.1)) ((List.length z1.2.1) - (Int.toNat z1.1.2.2.1))))) = (List.length ((win ((win ((win (List.replicate 0 ((0 : Int), (0 : Int))) 0 0) ++ (win z1.2.1 0 ((Int.toNat z1.1.2.2.1) - 0))) 0 (0 + (List.length (win z1.2.1 0 ((Int.toNat z1.1.2.2.1) - 0))))) ++ (win (List.set (List.replicate 1 ((0 : Int), (0 : Int))) 0 (z1.2.2.1, z1.2.2.2)) 0 1)) 0 ((0 + (List.length (win z1.2.1 0 ((Int.toNat z1.1.2.2.1) - 0)))) + (List.length (win (List.set (List.replicate 1 ((0 : Int), (0 : Int))) 0 (z1.2.2.1, z1.2.2.2)) 0 1)))) ++ (win z1.2.1 (0 + (Int.toNat z1.1.2.2.1)) ((List.length z1.2.1) - (Int.toNat z1.1.2.2.1))))))))
 (.ret (Sum.inl (((), (z1.1.2.2.2.1, (z1.1.2.2.2.2.1, (w64 (z1.1.2.2.2.2.2 + 1))))), ((win ((win ((win (List.replicate 0 ((0 : Int), (0 : Int))) 0 0) ++ (win z1.2.1 0 ((Int.toNat z1.1.2.2.1) - 0))) 0 (0 + (List.length (win z1.2.1 0 ((Int.toNat z1.1.2.2.1) - 0))))) ++ (win (List.set (List.replicate 1 ((0 : Int), (0 : Int))) 0 (z1.2.2.1, z1.2.2.2)) 0 1)) 0 ((0 + (List.length (win z1.2.1 0 ((Int.toNat z1.1.2.2.1) - 0)))) + (List.length (win (List.set (List.replicate 1 ((0 : Int), (0 : Int))) 0 (z1.2.2.1, z1.2.2.2)) 0 1)))) ++ (win z1.2.1 (0 + (Int.toNat z1.1.2.2.1)) ((List.length z1.2.1) - (Int.toNat z1.1.2.2.1)))))))
 .fail)
 .fail)
 .fail)
 .fail)
 .fail)
 .fail)
 .fail)
 .fail)
 .fail)
 .fail)
 .fail)
 .fail)
 .fail)
 .fail))
 .fail))
 .fail)
 (.test (decide ((0 = 0) ∧ ((List.length out) = (List.length out))))
 (.ret (Sum.inr ((), out)))
 .fail))
noncomputable def F86_L3 (v : ((Unit × List ((Int × Int)) × Int × Int) × List ((Int × Int)))) : Option (Unit × List ((Int × Int))) := loopO (fun v => (F86_L3_step v).run) v

def F86_fo : List FO := [⟨[(.one (.rw 0 0))], [(.row 0 (.pair (.int .i64) (.int .i64)))]⟩]
noncomputable def F86_t : List ((Int × Int)) → T (Unit × List ((Int × Int))) := fun ds =>
 (.test true
 (.sub (F86_L3 (((), (ds, (((List.length ds) : Int), (0 : Int)))), ([] : List (Int × Int)))) fun z0 =>
 (.test (decide ((0 = 0) ∧ ((List.length z0.2) = (List.length z0.2))))
 (.ret ((), z0.2))
 .fail))
 .fail)
noncomputable def F86 (v : List ((Int × Int))) : Option (Unit × List ((Int × Int))) := (F86_t v).run
noncomputable def F86_E : TEnv := (E0.add1 n_F100 F100_sh F100_fo F100)
theorem F86_Eok : (F86_E).OK := (E0ok.add1 F100_ok)
noncomputable def F86_told : Nat → Option SealT := fun id => if id = 6 then some (LSh.told F86_L6_sh 0 (F86_L6_step)) else if id = 3 then some (LSh.told F86_L3_sh 0 (F86_L3_step)) else none
theorem F86_L6_ok : ToldOK Tryz.prog 0 (loopAt (bodyOf fn_F86) [0, 0]) (LSh.told F86_L6_sh 0 (F86_L6_step)) :=
  loop_ok (E := F86_E) (F86_Eok) (told := F86_told) (l := F86_L6_sh) (step := F86_L6_step) (loopsOK_of (ls := []) (by kernel_rfl) trivial) (by kernel_rfl) (fun v => by kernel_rfl)
theorem F86_L3_ok : ToldOK Tryz.prog 0 (loopAt (bodyOf fn_F86) [0]) (LSh.told F86_L3_sh 0 (F86_L3_step)) :=
  loop_ok (E := F86_E) (F86_Eok) (told := F86_told) (l := F86_L3_sh) (step := F86_L3_step) (loopsOK_of (ls := [loopAt (bodyOf fn_F86) [0, 0]]) (by kernel_rfl) ⟨.inr ⟨_, by kernel_rfl, F86_L6_ok⟩, trivial⟩) (by kernel_rfl) (fun v => by kernel_rfl)
theorem F86_ok : FOK Tryz.prog n_F86 F86_sh F86_fo F86 :=
  fn_ok (E := F86_E) (F86_Eok) (told := F86_told) (fl := []) (c := bodyOf fn_F86) (s := F86_sh) (l := F86_fo) (tree := F86_t) fnat_F86 (by kernel_rfl) (by kernel_rfl) (by kernel_rfl) (loopsOK_of (ls := [loopAt (bodyOf fn_F86) [0]]) (by kernel_rfl) ⟨.inr ⟨_, by kernel_rfl, F86_L3_ok⟩, trivial⟩) (fun v => by kernel_rfl)

theorem F86_place (d : Dg) (out : List Dg) (t8 : List Dg) (a b : Int) (hl : out.length < 1000000) :
    ∃ k : Nat, k ≤ out.length ∧ out.take k ++ d :: out.drop k = insD d out ∧ F86_L6 (((), ((), ((0 : Int), (t8, (a, b))))), (out, d)) = some (((), ((), ((k : Int), (t8, (a, b))))), (out, d)) := by
  obtain ⟨k, h1, h2, h3, h4, h5⟩ := take_while_idx d out
  refine ⟨k, h1, by unfold insD; rw [h2, h3], ?_⟩
  obtain ⟨d0, d1⟩ := d
  have key : ∀ n j, j + n = k → F86_L6 (((), ((), ((j : Int), (t8, (a, b))))), (out, (d0, d1))) = some (((), ((), ((k : Int), (t8, (a, b))))), (out, (d0, d1))) := by
    intro n
    induction n with
    | zero =>
      intro j hj
      have : j = k := by omega
      subst this
      simp only [F86_L6]
      refine loopO_done ?_
      by_cases hk : j < out.length
      · have c0 : (j : Int) < (out.length : Int) := by omega
        have c1 : (0 : Int) ≤ (j : Int) ∧ (j : Int) < (out.length : Int) := by omega
        simp only [F86_L6_step, T.run, c0, c1, decide_true, if_true, Int.toNat_natCast, Nat.zero_add, gD_some hk, Option.bind_some, F100_eq, h5 hk, and_self]
        simp
      · have c0 : ¬ ((j : Int) < (out.length : Int)) := by omega
        simp only [F86_L6_step, T.run, c0, decide_false]
        simp
    | succ n ih =>
      intro j hj
      have hk : j < out.length := by omega
      have ih := ih (j + 1) (by omega)
      simp only [F86_L6] at ih ⊢
      rw [← ih]
      refine loopO_next ?_
      have c0 : (j : Int) < (out.length : Int) := by omega
      have c1 : (0 : Int) ≤ (j : Int) ∧ (j : Int) < (out.length : Int) := by omega
      have w1 : w64 ((j : Int) + 1) = ((j + 1 : Nat) : Int) := by rw [w64_id (by omega) (by omega)]; omega
      simp only [F86_L6_step, T.run, c0, c1, decide_true, if_true, Int.toNat_natCast, Nat.zero_add, gD_some hk, Option.bind_some, F100_eq, h4 j (by omega), and_self, w1]
  simpa using key k 0 (by omega)
theorem insD_length (d : Dg) (l : List Dg) : (insD d l).length = l.length + 1 := by simpa using (insD_perm d l).length_eq
theorem F86_eq (l : List Dg) (hl : l.length < 100000) : F86 l = some ((), sortD l) := by
  have h := loop_fold (step := fun v => (F86_L3_step v).run) (xs := l) (fun k (s : List Dg) => s.length = k) (fun k s => (((), (l, ((l.length : Int), (k : Int)))), s)) (fun out d => insD d out) (fun s => ((), s))
    (fun k s d hk hd => by
      have hlt := getElem?_lt hd
      have c0 : (k : Int) < (l.length : Int) := by omega
      have c1 : (0 : Int) ≤ (k : Int) ∧ (k : Int) < (l.length : Int) := by omega
      have w1 : w64 ((k : Int) + 1) = ((k + 1 : Nat) : Int) := by rw [w64_id (by omega) (by omega)]; omega
      obtain ⟨m, m1, m2, m3⟩ := F86_place d s l (l.length : Int) (k : Int) (by omega)
      refine ⟨?_, by rw [insD_length, hk]⟩
      have t1 : win s 0 (m - 0) = s.take m := win_take _ _
      have t2 : win (s.take m) 0 m = s.take m := by rw [win_take, List.take_take, Nat.min_self]
      have t3 : win s m (s.length - m) = s.drop m := by unfold win; rw [List.take_of_length_le (by simp)]
      have l1 : (s.take m).length = m := by simp; omega
      have l2 : (s.drop m).length = s.length - m := by simp
      have t4 : win ([] : List Dg) 0 0 = [] := rfl
      have l3 : (s.take m ++ [d]).length = m + 1 := by simp; omega
      have t5 : win (s.take m ++ [d]) 0 (m + 1) = s.take m ++ [d] := by rw [← l3]; exact win_all _
      have e : s.take m ++ [d] ++ s.drop m = insD d s := by rw [← m2]; simp
      simp only [F86_L3_step, T.run, c0, c1, decide_true, if_true, Int.toNat_natCast, Option.bind_some, and_self, hd, m3, win_one, List.replicate_zero, t1, t4, List.nil_append, l1, Nat.zero_add, t2, t3, l2, List.length_cons, List.length_nil, t5, e]
      have n1 : (0 : Int) ≤ (m : Int) := by omega
      have n2 : m - 0 ≤ s.length := by omega
      have n3 : m ≤ s.length := m1
      have n4 : 2 * ((m + 1 + (s.length - m)) * 17) ≤ 140737488355328 := by omega
      have n5 : 2 * (m * 17) ≤ 140737488355328 := by omega
      have n6 : 2 * ((m + 1) * 17) ≤ 140737488355328 := by omega
      have n7 : m + (s.length - m) ≤ s.length := by omega
      have n8 : m + 1 + (s.length - m) = s.length + 1 := by omega
      simp [n1, n2, n3, n4, n5, n6, n7, n8, w1, insD_length, l1]
      omega)
    (fun s hs => by simp [F86_L3_step, T.run])
    [] rfl
  simp only [Int.natCast_zero] at h
  simp only [F86, F86_t, T.run, F86_L3, h.1, Option.bind_some]
  simp [sortD]


def F116_sh : FSh := ⟨[(.one (.sl (.int .i64) false false))], []⟩

def F116_L5_sh : LSh := ⟨(fun ex => match ex with | .norm => [(4, none), (5, none), (26, none), (27, none)] | .exit i => if i = 0 then [(4, none), (5, none)] else [] | .ret => [(2, none), (3, none)]), [(4, (.one (.rw 0 0))), (5, (.one (.rw 1 0))), (26, (.one (.si .i64))), (27, (.one (.si .i64)))], [(.row 0 (.int .i64)), (.row 0 (.int .i64))], [⟨(.exit 0), [(4, (.one (.rw 0 0))), (5, (.one (.rw 1 0)))], [(.row 0 (.int .i64)), (.row 0 (.int .i64))]⟩], [], []⟩
noncomputable def F116_L5_step : ((Unit × Unit × Int × Int) × (List (Int) × List (Int))) → T (((Unit × Unit × Int × Int) × (List (Int) × List (Int))) ⊕ ((Unit × Unit) × (List (Int) × List (Int)))) := fun (((), (), t26, t27), (left, corners)) =>
 (.test (decide (t27 < t26))
 (.test (decide (1 ≤ (List.length (List.set (List.replicate 1 (0 : Int)) 0 t27))))
 (.test (decide ((0 + (List.length corners)) ≤ (List.length corners)))
 (.test (decide ((2 * (((List.length corners) + (List.length (win (List.set (List.replicate 1 (0 : Int)) 0 t27) 0 1))) * 9)) ≤ 140737488355328))
 (.test (decide ((0 = 0) ∧ ((List.length left) = (List.length left))))
 (.test (decide ((0 = 0) ∧ (((List.length corners) + (List.length (win (List.set (List.replicate 1 (0 : Int)) 0 t27) 0 1))) = (List.length ((win corners 0 (List.length corners)) ++ (win (List.set (List.replicate 1 (0 : Int)) 0 t27) 0 1))))))
 (.ret (Sum.inl (((), ((), (t26, (w64 (t27 + 1))))), (left, ((win corners 0 (List.length corners)) ++ (win (List.set (List.replicate 1 (0 : Int)) 0 t27) 0 1))))))
 .fail)
 .fail)
 .fail)
 .fail)
 .fail)
 (.test (decide ((0 = 0) ∧ ((List.length left) = (List.length left))))
 (.test (decide ((0 = 0) ∧ ((List.length corners) = (List.length corners))))
 (.ret (Sum.inr (((), ()), (left, corners))))
 .fail)
 .fail))
noncomputable def F116_L5 (v : ((Unit × Unit × Int × Int) × (List (Int) × List (Int)))) : Option ((Unit × Unit) × (List (Int) × List (Int))) := loopO (fun v => (F116_L5_step v).run) v

def F116_L13_sh : LSh := ⟨(fun ex => match ex with | .norm => [(4, none), (5, none), (7, none), (8, none), (38, none), (39, none), (40, none)] | .exit i => if i = 4 then [(4, none), (5, none), (7, none), (8, none)] else if i = 3 then [(4, none), (5, none), (7, none)] else if i = 2 then [(4, none), (7, none)] else [] | .ret => [(2, none), (3, none)]), [(4, (.one (.rw 0 0))), (5, (.one (.rw 1 0))), (7, (.one (.rw 2 0))), (8, (.one (.si .i64))), (38, (.one (.rw 0 0))), (39, (.one (.si .i64))), (40, (.one (.si .i64)))], [(.row 0 (.int .i64)), (.row 0 (.int .i64)), (.row 0 (.pair (.int .i64) (.int .i64)))], [⟨(.exit 4), [(4, (.one (.rw 0 0))), (5, (.one (.rw 1 0))), (7, (.one (.rw 2 0))), (8, (.one (.si .i64)))], [(.row 0 (.int .i64)), (.row 0 (.int .i64)), (.row 0 (.pair (.int .i64) (.int .i64)))]⟩], [], []⟩
noncomputable def F116_L13_step : ((Unit × Unit × Unit × Int × Unit × Int × Int) × (List (Int) × List (Int) × List ((Int × Int)))) → T (((Unit × Unit × Unit × Int × Unit × Int × Int) × (List (Int) × List (Int) × List ((Int × Int)))) ⊕ ((Unit × Unit × Unit × Int) × (List (Int) × List (Int) × List ((Int × Int))))) := fun (((), (), (), at', (), t39, t40), (left, corners, out)) =>
 (.test (decide (t40 < t39))
 (.test (decide ((0 ≤ t40) ∧ (t40 < ((List.length left) : Int))))
 (.sub (left[(0 + (Int.toNat t40))]?) fun z0 =>
 (.test (z0 == 1)
 (.test (decide (at' < 0))
 (.test (decide ((0 = 0) ∧ ((List.length left) = (List.length left))))
 (.test (decide ((0 = 0) ∧ ((List.length corners) = (List.length corners))))
 (.test (decide ((0 = 0) ∧ ((List.length out) = (List.length out))))
 (.test (decide ((0 = 0) ∧ ((List.length left) = (List.length left))))
 (.ret (Sum.inl (((), ((), ((), (t40, ((), (t39, (w64 (t40 + 1)))))))), (left, (corners, out)))))
 .fail)
 .fail)
 .fail)
 .fail)
 (.test (decide ((0 = 0) ∧ ((List.length left) = (List.length left))))
 (.test (decide ((0 = 0) ∧ ((List.length corners) = (List.length corners))))
 (.test (decide ((0 = 0) ∧ ((List.length out) = (List.length out))))
 (.test (decide ((0 = 0) ∧ ((List.length left) = (List.length left))))
 (.ret (Sum.inl (((), ((), ((), (at', ((), (t39, (w64 (t40 + 1)))))))), (left, (corners, out)))))
 .fail)
 .fail)
 .fail)
 .fail))
 (.test (decide ((0 = 0) ∧ ((List.length left) = (List.length left))))
 (.test (decide ((0 = 0) ∧ ((List.length corners) = (List.length corners))))
 (.test (decide ((0 = 0) ∧ ((List.length out) = (List.length out))))
 (.test (decide ((0 = 0) ∧ ((List.length left) = (List.length left))))
 (.ret (Sum.inl (((), ((), ((), (at', ((), (t39, (w64 (t40 + 1)))))))), (left, (corners, out)))))
 .fail)
 .fail)
 .fail)
 .fail)))
 .fail)
 (.test (decide ((0 = 0) ∧ ((List.length left) = (List.length left))))
 (.test (decide ((0 = 0) ∧ ((List.length corners) = (List.length corners))))
 (.test (decide ((0 = 0) ∧ ((List.length out) = (List.length out))))
 (.ret (Sum.inr (((), ((), ((), at'))), (left, (corners, out)))))
 .fail)
 .fail)
 .fail))
noncomputable def F116_L13 (v : ((Unit × Unit × Unit × Int × Unit × Int × Int) × (List (Int) × List (Int) × List ((Int × Int))))) : Option ((Unit × Unit × Unit × Int) × (List (Int) × List (Int) × List ((Int × Int)))) := loopO (fun v => (F116_L13_step v).run) v

def F116_L10_sh : LSh := ⟨(fun ex => match ex with | .norm => [(4, none), (5, none), (7, none)] | .exit i => if i = 2 then [(4, none), (7, none)] else [] | .ret => [(2, none), (3, none)]), [(4, (.one (.rw 0 0))), (5, (.one (.rw 1 0))), (7, (.one (.rw 2 0)))], [(.row 0 (.int .i64)), (.row 0 (.int .i64)), (.row 0 (.pair (.int .i64) (.int .i64)))], [⟨.ret, [(2, (.one (.rw 0 0))), (3, (.one .sb))], [(.row 0 (.pair (.int .i64) (.int .i64)))]⟩, ⟨(.exit 2), [(4, (.one (.rw 0 0))), (7, (.one (.rw 1 0)))], [(.row 0 (.int .i64)), (.row 0 (.pair (.int .i64) (.int .i64)))]⟩], [], []⟩
noncomputable def F116_L10_step : ((Unit × Unit × Unit) × (List (Int) × List (Int) × List ((Int × Int)))) → T (((Unit × Unit × Unit) × (List (Int) × List (Int) × List ((Int × Int)))) ⊕ (((Unit × Bool) × List ((Int × Int))) ⊕ ((Unit × Unit) × (List (Int) × List ((Int × Int)))))) := fun (((), (), ()), (left, corners, out)) =>
 (.test (decide (((List.length left) : Int) > 3))
 (.test (decide ((0 = 0) ∧ ((List.length left) = (List.length left))))
 (.test (decide ((0 = 0) ∧ ((List.length corners) = (List.length corners))))
 (.test (decide ((0 = 0) ∧ ((List.length out) = (List.length out))))
 (.test (decide ((0 = 0) ∧ ((List.length left) = (List.length left))))
 (.sub (F116_L13 (((), ((), ((), ((-1), ((), (((List.length left) : Int), (0 : Int))))))), (left, (corners, out)))) fun z0 =>
 (.test (decide (z0.1.2.2.2 < 0))
 (.test true
 (.ret (Sum.inr (Sum.inl (((), false), ([] : List (Int × Int))))))
 .fail)
 (.test (decide (((List.length z0.2.1) : Int) ≠ 0))
 (.test (decide (((List.length z0.2.1) : Int) ≠ 0))
 (.test (decide ((0 ≤ (Int.tmod (w64 ((w64 (z0.1.2.2.2 + ((List.length z0.2.1) : Int))) - 1)) ((List.length z0.2.1) : Int))) ∧ ((Int.tmod (w64 ((w64 (z0.1.2.2.2 + ((List.length z0.2.1) : Int))) - 1)) ((List.length z0.2.1) : Int)) < ((List.length z0.2.1) : Int))))
 (.sub (z0.2.1[(0 + (Int.toNat (Int.tmod (w64 ((w64 (z0.1.2.2.2 + ((List.length z0.2.1) : Int))) - 1)) ((List.length z0.2.1) : Int))))]?) fun z1 =>
 (.test (decide ((0 ≤ (Int.tmod (w64 ((w64 (z0.1.2.2.2 + ((List.length z0.2.1) : Int))) - 1)) ((List.length z0.2.1) : Int))) ∧ ((Int.tmod (w64 ((w64 (z0.1.2.2.2 + ((List.length z0.2.1) : Int))) - 1)) ((List.length z0.2.1) : Int)) < ((List.length z0.2.1) : Int))))
 (.sub (z0.2.1[(0 + (Int.toNat (Int.tmod (w64 ((w64 (z0.1.2.2.2 + ((List.length z0.2.1) : Int))) - 1)) ((List.length z0.2.1) : Int))))]?) fun z2 =>
 (.test (decide ((0 ≤ (Int.tmod (w64 (z0.1.2.2.2 + 1)) ((List.length z0.2.1) : Int))) ∧ ((Int.tmod (w64 (z0.1.2.2.2 + 1)) ((List.length z0.2.1) : Int)) < ((List.length z0.2.1) : Int))))
 (.sub ((List.set z0.2.1 (0 + (Int.toNat (Int.tmod (w64 ((w64 (z0.1.2.2.2 + ((List.length z0.2.1) : Int))) - 1)) ((List.length z0.2.1) : Int)))) (w64 (z1 - 1)))[(0 + (Int.toNat (Int.tmod (w64 (z0.1.2.2.2 + 1)) ((List.length z0.2.1) : Int))))]?) fun z3 =>
 (.test (decide ((0 ≤ (Int.tmod (w64 (z0.1.2.2.2 + 1)) ((List.length z0.2.1) : Int))) ∧ ((Int.tmod (w64 (z0.1.2.2.2 + 1)) ((List.length z0.2.1) : Int)) < ((List.length z0.2.1) : Int))))
 (.sub ((List.set z0.2.1 (0 + (Int.toNat (Int.tmod (w64 ((w64 (z0.1.2.2.2 + ((List.length z0.2.1) : Int))) - 1)) ((List.length z0.2.1) : Int)))) (w64 (z1 - 1)))[(0 + (Int.toNat (Int.tmod (w64 (z0.1.2.2.2 + 1)) ((List.length z0.2.1) : Int))))]?) fun z4 =>
 (.test (decide ((0 ≤ (Int.tmod (w64 ((w64 (z0.1.2.2.2 + ((List.length z0.2.1) : Int))) - 1)) ((List.length z0.2.1) : Int))) ∧ ((Int.tmod (w64 ((w64 (z0.1.2.2.2 + ((List.length z0.2.1) : Int))) - 1)) ((List.length z0.2.1) : Int)) < ((List.length z0.2.1) : Int))))
 (.sub ((List.set (List.set z0.2.1 (0 + (Int.toNat (Int.tmod (w64 ((w64 (z0.1.2.2.2 + ((List.length z0.2.1) : Int))) - 1)) ((List.length z0.2.1) : Int)))) (w64 (z1 - 1))) (0 + (Int.toNat (Int.tmod (w64 (z0.1.2.2.2 + 1)) ((List.length z0.2.1) : Int)))) (w64 (z3 - 1)))[(0 + (Int.toNat (Int.tmod (w64 ((w64 (z0.1.2.2.2 + ((List.length z0.2.1) : Int))) - 1)) ((List.length z0.2.1) : Int))))]?) fun z5 =>
 (.test (decide (z5 < 1))
 (.test true
 (.ret (Sum.inr (Sum.inl (((), false), ([] : List (Int × Int))))))
 .fail)
 (.test (decide ((0 ≤ (Int.tmod (w64 (z0.1.2.2.2 + 1)) ((List.length z0.2.1) : Int))) ∧ ((Int.tmod (w64 (z0.1.2.2.2 + 1)) ((List.length z0.2.1) : Int)) < ((List.length z0.2.1) : Int))))
 (.sub ((List.set (List.set z0.2.1 (0 + (Int.toNat (Int.tmod (w64 ((w64 (z0.1.2.2.2 + ((List.length z0.2.1) : Int))) - 1)) ((List.length z0.2.1) : Int)))) (w64 (z1 - 1))) (0 + (Int.toNat (Int.tmod (w64 (z0.1.2.2.2 + 1)) ((List.length z0.2.1) : Int)))) (w64 (z3 - 1)))[(0 + (Int.toNat (Int.tmod (w64 (z0.1.2.2.2 + 1)) ((List.length z0.2.1) : Int))))]?) fun z6 =>
 (.test (decide (z6 < 1))
 (.test true
 (.ret (Sum.inr (Sum.inl (((), false), ([] : List (Int × Int))))))
 .fail)
 (.test (decide ((0 ≤ (Int.tmod (w64 ((w64 (z0.1.2.2.2 + ((List.length z0.2.1) : Int))) - 1)) ((List.length z0.2.1) : Int))) ∧ ((Int.tmod (w64 ((w64 (z0.1.2.2.2 + ((List.length z0.2.1) : Int))) - 1)) ((List.length z0.2.1) : Int)) < ((List.length z0.2.2.1) : Int))))
 (.sub (z0.2.2.1[(0 + (Int.toNat (Int.tmod (w64 ((w64 (z0.1.2.2.2 + ((List.length z0.2.1) : Int))) - 1)) ((List.length z0.2.1) : Int))))]?) fun z7 =>
 (.test (decide ((0 ≤ (Int.tmod (w64 (z0.1.2.2.2 + 1)) ((List.length z0.2.1) : Int))) ∧ ((Int.tmod (w64 (z0.1.2.2.2 + 1)) ((List.length z0.2.1) : Int)) < ((List.length z0.2.2.1) : Int))))
 (.sub (z0.2.2.1[(0 + (Int.toNat (Int.tmod (w64 (z0.1.2.2.2 + 1)) ((List.length z0.2.1) : Int))))]?) fun z8 =>
 (.sub (F90 (z7, z8)) fun z9 =>
 (.test (decide ((0 ≤ (Int.tmod (w64 ((w64 (z0.1.2.2.2 + ((List.length z0.2.1) : Int))) - 1)) ((List.length z0.2.1) : Int))) ∧ ((Int.tmod (w64 ((w64 (z0.1.2.2.2 + ((List.length z0.2.1) : Int))) - 1)) ((List.length z0.2.1) : Int)) < ((List.length z0.2.2.1) : Int))))
 (.sub (z0.2.2.1[(0 + (Int.toNat (Int.tmod (w64 ((w64 (z0.1.2.2.2 + ((List.length z0.2.1) : Int))) - 1)) ((List.length z0.2.1) : Int))))]?) fun z10 =>
 (.test (decide ((0 ≤ (Int.tmod (w64 (z0.1.2.2.2 + 1)) ((List.length z0.2.1) : Int))) ∧ ((Int.tmod (w64 (z0.1.2.2.2 + 1)) ((List.length z0.2.1) : Int)) < ((List.length z0.2.2.1) : Int))))
 (.sub (z0.2.2.1[(0 + (Int.toNat (Int.tmod (w64 (z0.1.2.2.2 + 1)) ((List.length z0.2.1) : Int))))]?) fun z11 =>
 (.sub (F99 (z10, z11)) fun z12 =>
 (.test (decide (1 ≤ (List.length (List.set (List.replicate 1 ((0 : Int), (0 : Int))) 0 (z9, z12)))))
 (.test (decide ((0 + (List.length z0.2.2.2)) ≤ (List.length z0.2.2.2)))
 (.test (decide ((2 * (((List.length z0.2.2.2) + (List.length (win (List.set (List.replicate 1 ((0 : Int), (0 : Int))) 0 (z9, z12)) 0 1))) * 17)) ≤ 140737488355328))
 (.test (decide (0 ≤ z0.1.2.2.2))
 (.test (decide ((0 ≤ (Int.toNat z0.1.2.2.2)) ∧ ((Int.toNat z0.1.2.2.2) ≤ (List.length z0.2.1))))
 (.test (decide ((0 + ((Int.toNat z0.1.2.2.2) - 0)) ≤ (List.length (List.set (List.set z0.2.1 (0 + (Int.toNat (Int.tmod (w64 ((w64 (z0.1.2.2.2 + ((List.length z0.2.1) : Int))) - 1)) ((List.length z0.2.1) : Int)))) (w64 (z1 - 1))) (0 + (Int.toNat (Int.tmod (w64 (z0.1.2.2.2 + 1)) ((List.length z0.2.1) : Int)))) (w64 (z3 - 1))))))
 (.sub (F106 (win (List.set (List.set z0.2.1 (0 + (Int.toNat (Int.tmod (w64 ((w64 (z0.1.2.2.2 + ((List.length z0.2.1) : Int))) - 1)) ((List.length z0.2.1) : Int)))) (w64 (z1 - 1))) (0 + (Int.toNat (Int.tmod (w64 (z0.1.2.2.2 + 1)) ((List.length z0.2.1) : Int)))) (w64 (z3 - 1))) 0 ((Int.toNat z0.1.2.2.2) - 0))) fun z13 =>
 (.test (decide (0 ≤ (w64 (z0.1.2.2.2 + 1))))
 (.test (decide (((Int.toNat (w64 (z0.1.2.2.2 + 1))) ≤ (List.length z0.2.1)) ∧ ((List.length z0.2.1) ≤ (List.length z0.2.1))))
 (.test (decide (((0 + (Int.toNat (w64 (z0.1.2.2.2 + 1)))) + ((List.length z0.2.1) - (Int.toNat (w64 (z0.1.2.2.2 + 1))))) ≤ (List.length (List.set (List.set z0.2.1 (0 + (Int.toNat (Int.tmod (w64 ((w64 (z0.1.2.2.2 + ((List.length z0.2.1) : Int))) - 1)) ((List.length z0.2.1) : Int)))) (w64 (z1 - 1))) (0 + (Int.toNat (Int.tmod (w64 (z0.1.2.2.2 + 1)) ((List.length z0.2.1) : Int)))) (w64 (z3 - 1))))))
 (.test (decide ((0 + (List.length z13.2)) ≤ (List.length z13.2)))
 (.test (decide ((2 * (((List.length z13.2) + (List.length (win (List.set (List.set z0.2.1 (0 + (Int.toNat (Int.tmod (w64 ((w64 (z0.1.2.2.2 + ((List.length z0.2.1) : Int))) - 1)) ((List.length z0.2.1) : Int)))) (w64 (z1 - 1))) (0 + (Int.toNat (Int.tmod (w64 (z0.1.2.2.2 + 1)) ((List.length z0.2.1) : Int)))) (w64 (z3 - 1))) (0 + (Int.toNat (w64 (z0.1.2.2.2 + 1)))) ((List.length z0.2.1) - (Int.toNat (w64 (z0.1.2.2.2 + 1))))))) * 9)) ≤ 140737488355328))
 (.test (decide (0 ≤ z0.1.2.2.2))
 (.test (decide ((0 ≤ (Int.toNat z0.1.2.2.2)) ∧ ((Int.toNat z0.1.2.2.2) ≤ (List.length z0.2.2.1))))
 (.test (decide ((0 + ((Int.toNat z0.1.2.2.2) - 0)) ≤ (List.length z0.2.2.1)))
 (.sub (F106 (win z0.2.2.1 0 ((Int.toNat z0.1.2.2.2) - 0))) fun z14 =>
 (.test (decide (0 ≤ (w64 (z0.1.2.2.2 + 1))))
 (.test (decide (((Int.toNat (w64 (z0.1.2.2.2 + 1))) ≤ (List.length z0.2.2.1)) ∧ ((List.length z0.2.2.1) ≤ (List.length z0.2.2.1))))
 (.test (decide (((0 + (Int.toNat (w64 (z0.1.2.2.2 + 1)))) + ((List.length z0.2.2.1) - (Int.toNat (w64 (z0.1.2.2.2 + 1))))) ≤ (List.length z0.2.2.1)))
 (.test (decide ((0 + (List.length z14.2)) ≤ (List.length z14.2)))
 (.test (decide ((2 * (((List.length z14.2) + (List.length (win z0.2.2.1 (0 + (Int.toNat (w64 (z0.1.2.2.2 + 1)))) ((List.length z0.2.2.1) - (Int.toNat (w64 (z0.1.2.2.2 + 1))))))) * 9)) ≤ 140737488355328))
 (.test (decide ((0 = 0) ∧ (((List.length z13.2) + (List.length (win (List.set (List.set z0.2.1 (0 + (Int.toNat (Int.tmod (w64 ((w64 (z0.1.2.2.2 + ((List.length z0.2.1) : Int))) - 1)) ((List.length z0.2.1) : Int)))) (w64 (z1 - 1))) (0 + (Int.toNat (Int.tmod (w64 (z0.1.2.2.2 + 1)) ((List.length z0.2.1) : Int)))) (w64 (z3 - 1))) (0 + (Int.toNat (w64 (z0.1.2.2.2 + 1)))) ((List.length z0.2.1) - (Int.toNat (w64 (z0.1.2.2.2 + 1))))))) = (List.length ((win z13.2 0 (List.length z13.2)) ++ (win (List.set (List.set z0.2.1 (0 + (Int.toNat (Int.tmod (w64 ((w64 (z0.1.2.2.2 + ((List.length z0.2.1) : Int))) - 1)) ((List.length z0.2.1) : Int)))) (w64 (z1 - 1))) (0 + (Int.toNat (Int.tmod (w64 (z0.1.2.2.2 + 1)) ((List.length z0.2.1) : Int)))) (w64 (z3 - 1))) (0 + (Int.toNat (w64 (z0.1.2.2.2 + 1)))) ((List.length z0.2.1) - (Int.toNat (w64 (z0.1.2.2.2 + 1))))))))))
 (.test (decide ((0 = 0) ∧ (((List.length z14.2) + (List.length (win z0.2.2.1 (0 + (Int.toNat (w64 (z0.1.2.2.2 + 1)))) ((List.length z0.2.2.1) - (Int.toNat (w64 (z0.1.2.2.2 + 1))))))) = (List.length ((win z14.2 0 (List.length z14.2)) ++ (win z0.2.2.1 (0 + (Int.toNat (w64 (z0.1.2.2.2 + 1)))) ((List.length z0.2.2.1) - (Int.toNat (w64 (z0.1.2.2.2 + 1))))))))))
 (.test (decide ((0 = 0) ∧ (((List.length z0.2.2.2) + (List.length (win (List.set (List.replicate 1 ((0 : Int), (0 : Int))) 0 (z9, z12)) 0 1))) = (List.length ((win z0.2.2.2 0 (List.length z0.2.2.2)) ++ (win (List.set (List.replicate 1 ((0 : Int), (0 : Int))) 0 (z9, z12)) 0 1))))))
 (.ret (Sum.inl (((), ((), ())), (((win z13.2 0 (List.length z13.2)) ++ (win (List.set (List.set z0.2.1 (0 + (Int.toNat (Int.tmod (w64 ((w64 (z0.1.2.2.2 + ((List.length z0.2.1) : Int))) - 1)) ((List.length z0.2.1) : Int)))) (w64 (z1 - 1))) (0 + (Int.toNat (Int.tmod (w64 (z0.1.2.2.2 + 1)) ((List.length z0.2.1) : Int)))) (w64 (z3 - 1))) (0 + (Int.toNat (w64 (z0.1.2.2.2 + 1)))) ((List.length z0.2.1) - (Int.toNat (w64 (z0.1.2.2.2 + 1)))))), (((win z14.2 0 (List.length z14.2)) ++ (win z0.2.2.1 (0 + (Int.toNat (w64 (z0.1.2.2.2 + 1)))) ((List.length z0.2.2.1) - (Int.toNat (w64 (z0.1.2.2.2 + 1)))))), ((win z0.2.2.2 0 (List.length z0.2.2.2)) ++ (win (List.set (List.replicate 1 ((0 : Int), (0 : Int))) 0 (z9, z12)) 0 1)))))))
 .fail)
 .fail)
 .fail)
 .fail)
 .fail)
 .fail)
 .fail)
 .fail))
 .fail)
 .fail)
 .fail)
 .fail)
 .fail)
 .fail)
 .fail)
 .fail))
 .fail)
 .fail)
 .fail)
 .fail)
 .fail)
 .fail)))
 .fail))
 .fail)))
 .fail))
 .fail)))
 .fail)))
 .fail))
 .fail))
 .fail))
 .fail))
 .fail)
 .fail)
 .fail)))
 .fail)
 .fail)
 .fail)
 .fail)
 (.test (decide ((0 = 0) ∧ ((List.length left) = (List.length left))))
 (.test (decide ((0 = 0) ∧ ((List.length out) = (List.length out))))
 (.ret (Sum.inr (Sum.inr (((), ()), (left, out)))))
 .fail)
 .fail))
noncomputable def F116_L10 (v : ((Unit × Unit × Unit) × (List (Int) × List (Int) × List ((Int × Int))))) : Option (((Unit × Bool) × List ((Int × Int))) ⊕ ((Unit × Unit) × (List (Int) × List ((Int × Int))))) := loopO (fun v => (F116_L10_step v).run) v

def F116_fo : List FO := [⟨[(.one (.rw 0 0)), (.one .sb)], [(.row 0 (.pair (.int .i64) (.int .i64)))]⟩]
noncomputable def F116_t : List (Int) → T ((Unit × Bool) × List ((Int × Int))) := fun quiddity =>
 (.sub (F115 ((List.length quiddity) : Int)) fun z0 =>
 (.test (! z0)
 (.test true
 (.ret (((), false), ([] : List (Int × Int))))
 .fail)
 (.sub (F105 (quiddity, ((1 : Int), (12 : Int)))) fun z1 =>
 (.test (! z1)
 (.test true
 (.ret (((), false), ([] : List (Int × Int))))
 .fail)
 (.sub (F106 quiddity) fun z2 =>
 (.test (decide ((0 = 0) ∧ ((List.length z2.2) = (List.length z2.2))))
 (.test (decide ((0 = 0) ∧ (0 = (List.length (List.replicate 0 (0 : Int))))))
 (.sub (F116_L5 (((), ((), (((List.length z2.2) : Int), (0 : Int)))), (z2.2, (List.replicate 0 (0 : Int))))) fun z3 =>
 (.test (decide ((0 = 0) ∧ ((List.length z3.2.1) = (List.length z3.2.1))))
 (.test (decide ((0 = 0) ∧ ((List.length z3.2.2) = (List.length z3.2.2))))
 (.test (decide ((0 = 0) ∧ (0 = (List.length ([] : List (Int × Int))))))
 (.sub (F116_L10 (((), ((), ())), (z3.2.1, (z3.2.2, ([] : List (Int × Int)))))) fun z4 =>
 (.test (Sum.isLeft z4)
 (.sub (Sum.getLeft? z4) fun z5 =>
 (.test (decide ((0 = 0) ∧ ((List.length z5.2) = (List.length z5.2))))
 (.ret (((), z5.1.2), z5.2))
 .fail))
 (.sub (Sum.getRight? z4) fun z6 =>
 (.test (decide ((0 + (List.length z6.2.2)) ≤ (List.length z6.2.2)))
 (.sub (F86 (win z6.2.2 0 (List.length z6.2.2))) fun z7 =>
 (.test (decide (((0 : Int) ≤ (0 : Int)) ∧ (0 < ((List.length z6.2.1) : Int))))
 (.sub (z6.2.1[0]?) fun z8 =>
 (.test (z8 == 1)
 (.test (decide (((0 : Int) ≤ (1 : Int)) ∧ (1 < ((List.length z6.2.1) : Int))))
 (.sub (z6.2.1[1]?) fun z9 =>
 (.test (z9 == 1)
 (.test (decide (((0 : Int) ≤ (2 : Int)) ∧ (2 < ((List.length z6.2.1) : Int))))
 (.sub (z6.2.1[2]?) fun z10 =>
 (.test (decide ((0 = 0) ∧ ((List.length z7.2) = (List.length z7.2))))
 (.ret (((), (z10 == 1)), z7.2))
 .fail))
 .fail)
 (.test (decide ((0 = 0) ∧ ((List.length z7.2) = (List.length z7.2))))
 (.ret (((), false), z7.2))
 .fail)))
 .fail)
 (.test (decide ((0 = 0) ∧ ((List.length z7.2) = (List.length z7.2))))
 (.ret (((), false), z7.2))
 .fail)))
 .fail))
 .fail))))
 .fail)
 .fail)
 .fail))
 .fail)
 .fail))))))
noncomputable def F116 (v : List (Int)) : Option ((Unit × Bool) × List ((Int × Int))) := (F116_t v).run
noncomputable def F116_E : TEnv := ((((((E0.add1 n_F115 F115_sh F115_fo F115).add1 n_F105 F105_sh F105_fo F105).add1 n_F106 F106_sh F106_fo F106).add1 n_F90 F90_sh F90_fo F90).add1 n_F99 F99_sh F99_fo F99).add1 n_F86 F86_sh F86_fo F86)
theorem F116_Eok : (F116_E).OK := ((((((E0ok.add1 F115_ok).add1 F105_ok).add1 F106_ok).add1 F90_ok).add1 F99_ok).add1 F86_ok)
noncomputable def F116_told : Nat → Option SealT := fun id => if id = 5 then some (LSh.told F116_L5_sh 0 (F116_L5_step)) else if id = 13 then some (LSh.told F116_L13_sh 0 (F116_L13_step)) else if id = 10 then some (LSh.told F116_L10_sh 0 (F116_L10_step)) else none
theorem F116_L5_ok : ToldOK Tryz.prog 0 (loopAt (bodyOf fn_F116) [0]) (LSh.told F116_L5_sh 0 (F116_L5_step)) :=
  loop_ok (E := F116_E) (F116_Eok) (told := F116_told) (l := F116_L5_sh) (step := F116_L5_step) (loopsOK_of (ls := []) (by kernel_rfl) trivial) (by kernel_rfl) (fun v => by kernel_rfl)
theorem F116_L13_ok : ToldOK Tryz.prog 0 (loopAt (bodyOf fn_F116) [1, 0]) (LSh.told F116_L13_sh 0 (F116_L13_step)) :=
  loop_ok (E := F116_E) (F116_Eok) (told := F116_told) (l := F116_L13_sh) (step := F116_L13_step) (loopsOK_of (ls := []) (by kernel_rfl) trivial) (by kernel_rfl) (fun v => by kernel_rfl)
theorem F116_L10_ok : ToldOK Tryz.prog 0 (loopAt (bodyOf fn_F116) [1]) (LSh.told F116_L10_sh 0 (F116_L10_step)) :=
  loop_ok (E := F116_E) (F116_Eok) (told := F116_told) (l := F116_L10_sh) (step := F116_L10_step) (loopsOK_of (ls := [loopAt (bodyOf fn_F116) [1, 0]]) (by kernel_rfl) ⟨.inr ⟨_, by kernel_rfl, F116_L13_ok⟩, trivial⟩) (by kernel_rfl) (fun v => by kernel_rfl)
theorem F116_ok : FOK Tryz.prog n_F116 F116_sh F116_fo F116 :=
  fn_ok (E := F116_E) (F116_Eok) (told := F116_told) (fl := []) (c := bodyOf fn_F116) (s := F116_sh) (l := F116_fo) (tree := F116_t) fnat_F116 (by kernel_rfl) (by kernel_rfl) (by kernel_rfl) (loopsOK_of (ls := [loopAt (bodyOf fn_F116) [0], loopAt (bodyOf fn_F116) [1]]) (by kernel_rfl) ⟨.inr ⟨_, by kernel_rfl, F116_L5_ok⟩, ⟨.inr ⟨_, by kernel_rfl, F116_L10_ok⟩, trivial⟩⟩) (fun v => by kernel_rfl)

theorem F116_names (left : List Int) (hl : left.length < 1000000) : F116_L5 (((), ((), ((left.length : Int), (0 : Int)))), (left, [])) = some (((), ()), (left, nameL left.length)) := by
  have key : ∀ m k, k + m = left.length → F116_L5 (((), ((), ((left.length : Int), (k : Int)))), (left, nameL k)) = some (((), ()), (left, nameL left.length)) := by
    intro m
    induction m with
    | zero =>
      intro k hk
      have : k = left.length := by omega
      subst this
      simp only [F116_L5]
      exact loopO_done (by simp [F116_L5_step, T.run])
    | succ m ih =>
      intro k hk
      have ih := ih (k + 1) (by omega)
      simp only [F116_L5] at ih ⊢
      rw [← ih]
      refine loopO_next ?_
      have c0 : (k : Int) < (left.length : Int) := by omega
      have w1 : w64 ((k : Int) + 1) = ((k + 1 : Nat) : Int) := by rw [w64_id (by omega) (by omega)]; omega
      have hw : win (nameL k) 0 k = nameL k := by have := win_all (nameL k); rwa [nameL_length] at this
      have c1 : 2 * ((k + 1) * 9) ≤ 140737488355328 := by omega
      have hs : nameL k ++ [(k : Int)] = nameL (k + 1) := (nameL_succ k).symm
      simp only [F116_L5_step, T.run, c0, decide_true, if_true, win_one, nameL_length, hw, w1, List.length_cons, List.length_nil, c1, hs, Nat.zero_add]
      simp [c1]
  simpa [nameL] using key left.length 0 (by omega)
theorem F116_first (left corners : List Int) (out : List Dg) (hl : left.length < 1000000) :
    F116_L13 (((), ((), ((), ((-1), ((), ((left.length : Int), (0 : Int))))))), (left, (corners, out))) = some (((), ((), ((), idxI (fun x => (1 : Int) == x) left))), (left, (corners, out))) := by
  have key : ∀ m k (at' : Int), k + m = left.length → (at' < 0 → at' = -1) → F116_L13 (((), ((), ((), (at', ((), ((left.length : Int), (k : Int))))))), (left, (corners, out))) =
      some (((), ((), ((), if at' < 0 then (match (left.drop k).findIdx? (fun x => (1 : Int) == x) with | some i => ((k + i : Nat) : Int) | none => -1) else at'))), (left, (corners, out))) := by
    intro m
    induction m with
    | zero =>
      intro k at' hk ha
      have : k = left.length := by omega
      subst this
      rw [List.drop_length]
      simp only [F116_L13]
      refine loopO_done ?_
      by_cases h : at' < 0
      · have := ha h; subst this; simp [F116_L13_step, T.run]
      · simp [F116_L13_step, T.run, h]
    | succ m ih =>
      intro k at' hk ha
      have hlt : k < left.length := by omega
      have g0 := List.getElem?_eq_getElem hlt
      have c0 : (k : Int) < (left.length : Int) := by omega
      have c1 : (0 : Int) ≤ (k : Int) ∧ (k : Int) < (left.length : Int) := by omega
      have w1 : w64 ((k : Int) + 1) = ((k + 1 : Nat) : Int) := by rw [w64_id (by omega) (by omega)]; omega
      rw [List.drop_eq_getElem_cons hlt, List.findIdx?_cons]
      have st : (F116_L13_step (((), ((), ((), (at', ((), ((left.length : Int), (k : Int))))))), (left, (corners, out)))).run =
          some (.inl (((), ((), ((), ((if (left[k] == 1) = true ∧ at' < 0 then (k : Int) else at'), ((), ((left.length : Int), ((k + 1 : Nat) : Int))))))), (left, (corners, out)))) := by
        simp only [F116_L13_step, T.run, c0, c1, decide_true, if_true, and_self, Int.toNat_natCast, Nat.zero_add, g0, Option.bind_some, w1]
        cases hb : left[k] == 1 <;> by_cases h : at' < 0 <;> simp [h]
      have ih' := ih (k + 1) (if (left[k] == 1) = true ∧ at' < 0 then (k : Int) else at') (by omega) (by split <;> omega)
      simp only [F116_L13] at ih' ⊢
      rw [loopO_next st, ih']
      have hsym : ((1 : Int) == left[k]) = (left[k] == 1) := by rw [beq_int, beq_int]; congr 1; exact propext eq_comm
      rw [hsym]
      cases hb : left[k] == 1 with
      | true =>
        by_cases h : at' < 0
        · have : ¬ ((k : Int) < 0) := by omega
          simp [h, this]
        · simp [h]
      | false =>
        by_cases h : at' < 0
        · simp only [Bool.false_eq_true, false_and, if_false, h, if_true]
          cases (left.drop (k + 1)).findIdx? (fun x => (1 : Int) == x) with
          | none => rfl
          | some i => simp only [Option.map_some]; rw [show k + 1 + i = k + (i + 1) by omega]
        · simp [h]
  have := key left.length 0 (-1) (by omega) (fun _ => rfl)
  rw [Int.natCast_zero, List.drop_zero] at this
  rw [this]
  simp only [idxI]
  simp
  rfl
theorem F116_cut (left names : List Int) (out : List Dg) (k i : Nat) (hk : k < 100000) (hl : left.length = k + 4) (hn : names.length = k + 4) (ho : out.length < 100000) (he : ear left = some i) :
    (F116_L10_step (((), ((), ())), (left, (names, out)))).run = some (if okC left i then .inl (((), ((), ())), (cutL left i, (names.eraseIdx i, out ++ [cutD names i]))) else .inr (.inl (((), false), []))) := by
  obtain ⟨hi, _⟩ := ear_lt he
  obtain ⟨n1, n2, n3, n4, n5, n6⟩ := nb_facts (by omega : 3 ≤ left.length) hi
  obtain ⟨t1, t2⟩ := nb_tmod (by omega : 3 ≤ left.length) (by omega) hi
  have hf := F116_first left names out (by omega)
  have hii : idxI (fun x => (1 : Int) == x) left = (i : Int) := by unfold idxI; unfold ear at he; rw [he]
  rw [hii] at hf
  have c0 : (left.length : Int) > 3 := by omega
  have c1 : ¬ ((i : Int) < 0) := by omega
  have c2 : (left.length : Int) ≠ 0 := by omega
  have c3 : (0 : Int) ≤ (nbB left.length i : Int) ∧ (nbB left.length i : Int) < (left.length : Int) := by omega
  have c4 : (0 : Int) ≤ (nbC left.length i : Int) ∧ (nbC left.length i : Int) < (left.length : Int) := by omega
  have c5 : (0 : Int) ≤ (nbB left.length i : Int) ∧ (nbB left.length i : Int) < (names.length : Int) := by omega
  have c6 : (0 : Int) ≤ (nbC left.length i : Int) ∧ (nbC left.length i : Int) < (names.length : Int) := by omega
  have g1 := set_getD n1
  have g2 : (left.set (nbB left.length i) (w64 (left.getD (nbB left.length i) 0 - 1)))[nbC left.length i]? = some ((decAt left (nbB left.length i)).getD (nbC left.length i) 0) := set_getD (by simpa using n2)
  have g2' : (decAt left (nbB left.length i)).getD (nbC left.length i) 0 = left.getD (nbC left.length i) 0 := by
    unfold decAt
    simp only [List.getD_eq_getElem?_getD]
    rw [List.getElem?_set_ne n5]
  have g3 := set_getD (l := names) (p := nbB left.length i) (by omega)
  have g4 := set_getD (l := names) (p := nbC left.length i) (by omega)
  have w1 : w64 ((i : Int) + 1) = ((i + 1 : Nat) : Int) := by rw [w64_id (by omega) (by omega)]; omega
  rw [w1] at t2
  have hD' : (min (names.getD (nbB left.length i) 0) (names.getD (nbC left.length i) 0), max (names.getD (nbB left.length i) 0) (names.getD (nbC left.length i) 0)) = cutD names i := by unfold cutD; rw [hl, hn]
  have hmin : ∀ a b, F90 (a, b) = some (min a b) := by
    intro a b
    simp only [F90, F90_t, T.run]
    by_cases h : a < b <;> simp [h] <;> omega
  have hmax : ∀ a b, F99 (a, b) = some (max a b) := by
    intro a b
    simp only [F99, F99_t, T.run]
    by_cases h : a > b <;> simp [h] <;> omega
  have c7 : 2 * ((out.length + 1) * 17) ≤ 140737488355328 := by omega
  have l1 : (decAt (decAt left (nbB left.length i)) (nbC left.length i)).length = left.length := by rw [decAt_length, decAt_length]
  have e1 : left.set (nbB left.length i) (w64 (left.getD (nbB left.length i) 0 - 1)) = decAt left (nbB left.length i) := rfl
  have e2 : (decAt left (nbB left.length i)).set (nbC left.length i) (w64 (left.getD (nbC left.length i) 0 - 1)) = decAt (decAt left (nbB left.length i)) (nbC left.length i) := by unfold decAt; rw [← decAt, g2']
  have g5 : (decAt (decAt left (nbB left.length i)) (nbC left.length i))[nbB left.length i]? = some (w64 (left.getD (nbB left.length i) 0 - 1)) := by
    conv => lhs; unfold decAt
    rw [List.getElem?_set_ne (Ne.symm n5), List.getElem?_set_self n1]
  have g6 : (decAt (decAt left (nbB left.length i)) (nbC left.length i))[nbC left.length i]? = some (w64 (left.getD (nbC left.length i) 0 - 1)) := by
    rw [← e2, List.getElem?_set_self (by rw [decAt_length]; exact n2)]
  rw [e1, g2'] at g2
  have htl : ((decAt (decAt left (nbB left.length i)) (nbC left.length i)).take i).length = i := by rw [List.length_take, l1]; omega
  have htn : (names.take i).length = i := by rw [List.length_take]; omega
  have own1 := F106_eq ((decAt (decAt left (nbB left.length i)) (nbC left.length i)).take i) (by rw [htl]; omega)
  have own2 := F106_eq (names.take i) (by rw [htn]; omega)
  have d1 : win (decAt (decAt left (nbB left.length i)) (nbC left.length i)) (i + 1) (left.length - (i + 1)) = (decAt (decAt left (nbB left.length i)) (nbC left.length i)).drop (i + 1) := by
    unfold win; rw [List.take_of_length_le (by rw [List.length_drop, l1]; omega)]
  have d2 : win names (i + 1) (names.length - (i + 1)) = names.drop (i + 1) := by
    unfold win; rw [List.take_of_length_le (by rw [List.length_drop]; omega)]
  have x1 : (decAt (decAt left (nbB left.length i)) (nbC left.length i)).take i ++ (decAt (decAt left (nbB left.length i)) (nbC left.length i)).drop (i + 1) = cutL left i := take_drop_erase _ _
  have x2 : names.take i ++ names.drop (i + 1) = names.eraseIdx i := take_drop_erase _ _
  have f1 : (0 : Int) ≤ (i : Int) := by omega
  have f2 : 0 ≤ i ∧ i ≤ left.length := by omega
  have f3 : i ≤ left.length := by omega
  have f4 : (0 : Int) ≤ ((i + 1 : Nat) : Int) := by omega
  have f5 : i + 1 ≤ left.length ∧ left.length ≤ left.length := by omega
  have f6 : i + 1 + (left.length - (i + 1)) ≤ left.length := by omega
  have f7 : 2 * ((i + (left.length - (i + 1))) * 9) ≤ 140737488355328 := by omega
  have f8 : 0 ≤ i ∧ i ≤ names.length := by omega
  have f9 : i ≤ names.length := by omega
  have f10 : i + 1 ≤ names.length ∧ names.length ≤ names.length := by omega
  have f11 : i + 1 + (names.length - (i + 1)) ≤ names.length := by omega
  have f12 : 2 * ((i + (names.length - (i + 1))) * 9) ≤ 140737488355328 := by omega
  have f13 : i + (left.length - (i + 1)) = (cutL left i).length := by rw [cutL_length hi]; omega
  have f14 : i + (names.length - (i + 1)) = (names.eraseIdx i).length := by rw [List.length_eraseIdx, if_pos (by omega)]; omega
  have x1' := x1
  have x2' := x2
  simp only [F116_L10_step, T.run, c0, decide_true, if_true, Nat.zero_add, Nat.le_refl, hf, Option.bind_some, c1, decide_false, Bool.false_eq_true, if_false, c2, ne_eq, not_false_eq_true, t1, t2, c3, c4, c5, c6, and_self, Int.toNat_natCast, g1, e1, g2, e2, g3, g4, g5, g6, hmin, hmax, hD', win_one, w1, l1, true_and, win_take, Nat.sub_zero, f1, f2, f3, f4, own1, own2, htl, htn, d1, d2]
  have tk : ∀ {X : Type} (l : List X), (l.take i).take i = l.take i := fun l => by rw [List.take_take, Nat.min_self]
  have dl1 : ((decAt (decAt left (nbB left.length i)) (nbC left.length i)).drop (i + 1)).length = left.length - (i + 1) := by rw [List.length_drop, l1]
  have dl2 : (names.drop (i + 1)).length = names.length - (i + 1) := by rw [List.length_drop]
  have t1' : List.take 1 ((List.replicate 1 ((0 : Int), (0 : Int))).set 0 (cutD names i)) = [cutD names i] := rfl
  have t2' : ((List.replicate 1 ((0 : Int), (0 : Int))).set 0 (cutD names i)).length = 1 := rfl
  have f5' : i + 1 ≤ left.length := by omega
  have f7' : 2 * ((cutL left i).length * 9) ≤ 140737488355328 := by rw [← f13]; exact f7
  have f12' : 2 * ((names.eraseIdx i).length * 9) ≤ 140737488355328 := by rw [← f14]; exact f12
  have f10' : i + 1 ≤ names.length := by omega
  simp only [tk, dl1, dl2, t1', t2', List.take_length, x1, x2, f5', f6, f7, f7', f9, f10', f11, f12, f12', f13, f14, and_true, decide_true, if_true, List.length_cons, List.length_nil, Nat.zero_add, c7, List.length_append, Nat.le_refl]
  unfold okC
  by_cases h1 : w64 (left.getD (nbB left.length i) 0 - 1) < 1
  · have h1' : ¬ (1 ≤ w64 (left.getD (nbB left.length i) 0 - 1)) := by omega
    simp only [h1, h1', decide_true, if_true, false_and, decide_false, Bool.false_eq_true, if_false]
  · have h1' : 1 ≤ w64 (left.getD (nbB left.length i) 0 - 1) := by omega
    by_cases h2 : w64 (left.getD (nbC left.length i) 0 - 1) < 1
    · have h2' : ¬ (1 ≤ w64 (left.getD (nbC left.length i) 0 - 1)) := by omega
      simp only [h1, h1', h2, h2', decide_true, if_true, and_false, decide_false, Bool.false_eq_true, if_false]
    · have h2' : 1 ≤ w64 (left.getD (nbC left.length i) 0 - 1) := by omega
      simp only [h1, h1', h2, h2', decide_true, if_true, and_self, decide_false, Bool.false_eq_true, if_false]
theorem F116_cuts : ∀ (k : Nat) (left names : List Int) (out : List Dg), k < 1000 → left.length = k + 3 → names.length = k + 3 → out.length + k < 10000 →
    F116_L10 (((), ((), ())), (left, (names, out))) = some (match triSW k left names with
      | none => .inl (((), false), [])
      | some r => .inr (((), ()), (r.1, out ++ r.2)))
  | 0, left, names, out, hk, hl, hn, ho => by
    simp only [F116_L10, triSW]
    refine loopO_done ?_
    have c0 : ¬ ((left.length : Int) > 3) := by omega
    simp [F116_L10_step, T.run, c0]
  | k + 1, left, names, out, hk, hl, hn, ho => by
    cases he : ear left with
    | none =>
      have hf := F116_first left names out (by omega)
      have hii : idxI (fun x => (1 : Int) == x) left = -1 := by unfold idxI; unfold ear at he; rw [he]
      rw [hii] at hf
      have c0 : (left.length : Int) > 3 := by omega
      simp only [F116_L10, triSW, he]
      refine loopO_done ?_
      simp only [F116_L10_step, T.run, c0, decide_true, if_true, hf, Option.bind_some, true_and]
      simp
    | some i =>
      have st := F116_cut left names out k i (by omega) (by omega) (by omega) (by omega) he
      simp only [F116_L10, triSW, he] at st ⊢
      cases hok : okC left i with
      | false =>
        rw [hok] at st
        rw [loopO_done st]
        rfl
      | true =>
        rw [hok] at st
        have hlc := cutL_length (ear_lt he).1
        have ih := F116_cuts k (cutL left i) (names.eraseIdx i) (out ++ [cutD names i]) (by omega) (by omega) (by rw [List.length_eraseIdx, if_pos (by have := (ear_lt he).1; omega)]; omega) (by simp; omega)
        simp only [F116_L10] at ih
        rw [loopO_next st, ih]
        cases triSW k (cutL left i) (names.eraseIdx i) with
        | none => rfl
        | some r => simp
theorem F116_eq (l : List Int) (hl : l.length < 4611686018427387904) : ∃ r, r.length ≤ 9 ∧ F116 l = some (match trOf l with | some ds => (((), true), ds) | none => (((), false), r)) ∧ ((trOf l).isSome → ∀ ds, trOf l = some ds → ds.length ≤ 9) := by
  have hdl : ∀ ds, trOf l = some ds → ds.length ≤ 9 := by
    intro ds h
    unfold trOf at h
    split at h
    · rename_i hn
      rw [inB_iff] at hn
      split at h
      · rename_i es hT
        split at h
        · cases h
          rw [sortD_length, (tri_good _ _ _ _ (nameL_sorted _) (by omega) (by rw [nameL_length]; omega) hT).1]
          omega
        · cases h
      · cases h
    · cases h
  simp only [F116, F116_t, T.run, F115, F115_t, F114_eq, Option.bind_some]
  cases hn : inB 3 12 (l.length : Int) with
  | false => exact ⟨[], by simp, by simp [trOf, hn], fun _ => hdl⟩
  | true =>
    have hn' := inB_iff.1 hn
    rw [F105_eq l 1 12 hl]
    cases ha : l.all (inB 1 12) with
    | false => exact ⟨[], by simp, by simp [trOf_bad l ha], fun _ => hdl⟩
    | true =>
      have hown := F106_eq l (by omega)
      have h5 := F116_names l (by omega)
      have h10 := F116_cuts (l.length - 3) l (nameL l.length) [] (by omega) (by omega) (by rw [nameL_length]; omega) (by simp; omega)
      have htri := triS_W (l.length - 3) l (nameL l.length)
      have hsp := trOf_spec l ha hn
      simp only [Bool.not_true, Bool.false_eq_true, if_false, Option.bind_some, hown, List.replicate_zero, List.length_nil, true_and, decide_true, if_true, h5, h10]
      cases hW : triSW (l.length - 3) l (nameL l.length) with
      | none =>
        rw [htri, hW] at hsp
        exact ⟨[], by simp, by rw [← hsp]; simp, fun _ => hdl⟩
      | some r =>
        obtain ⟨l3, ds⟩ := r
        obtain ⟨g1, g2⟩ := triSW_len _ _ _ _ (by omega) hW
        simp only at g1 g2
        rw [htri, hW] at hsp
        have hs := F86_eq ds (by omega)
        have hls := sortD_length ds
        match l3, g1 with
        | [a, b, c], _ =>
          refine ⟨sortD ds, by omega, ?_, fun _ => hdl⟩
          rw [← hsp]
          simp only [Sum.isLeft, Sum.getRight?, Option.bind_some, Bool.false_eq_true, if_false, List.nil_append, Nat.zero_add, Nat.le_refl, decide_true, if_true, win_all, hs]
          by_cases ea : a = 1 <;> by_cases eb : b = 1 <;> by_cases ec : c = 1 <;> simp [ea, eb, ec]


def F72_sh : FSh := ⟨[(.one (.sl (.int .i64) false false))], []⟩

def F72_fo : List FO := [⟨[(.one .sb)], []⟩]
noncomputable def F72_t : List (Int) → T Bool := fun quiddity =>
 (.sub (F116 quiddity) fun z0 =>
 (.ret z0.1.2))
noncomputable def F72 (v : List (Int)) : Option Bool := (F72_t v).run
noncomputable def F72_E : TEnv := (E0.add1 n_F116 F116_sh F116_fo F116)
theorem F72_Eok : (F72_E).OK := (E0ok.add1 F116_ok)
noncomputable def F72_told : Nat → Option SealT := fun id => none
theorem F72_ok : FOK Tryz.prog n_F72 F72_sh F72_fo F72 :=
  fn_ok (E := F72_E) (F72_Eok) (told := F72_told) (fl := []) (c := bodyOf fn_F72) (s := F72_sh) (l := F72_fo) (tree := F72_t) fnat_F72 (by kernel_rfl) (by kernel_rfl) (by kernel_rfl) (loopsOK_of (ls := []) (by kernel_rfl) trivial) (fun v => by kernel_rfl)

theorem F72_eq (l : List Int) (hl : l.length < 4611686018427387904) : F72 l = some (trOf l).isSome := by
  obtain ⟨r, _, h, _⟩ := F116_eq l hl
  simp only [F72, F72_t, T.run, h, Option.bind_some]
  cases trOf l <;> rfl


def F91_sh : FSh := ⟨[(.one (.sl (.int .i64) false false)), (.one (.si .i64))], []⟩

def F91_fo : List FO := [⟨[(.one (.rw 0 0)), (.one .sb)], [(.row 0 (.int .i64))]⟩]
noncomputable def F91_t : (List (Int) × Int) → T ((Unit × Bool) × List (Int)) := fun (quiddity, at') =>
 (.sub (F72 quiddity) fun z0 =>
 (.test (! z0)
 (.test true
 (.ret (((), false), ([] : List (Int))))
 .fail)
 (.test (((List.length quiddity) : Int) == 12)
 (.test true
 (.ret (((), false), ([] : List (Int))))
 .fail)
 (.sub (F114 (at', ((1 : Int), ((List.length quiddity) : Int)))) fun z1 =>
 (.test (! z1)
 (.test true
 (.ret (((), false), ([] : List (Int))))
 .fail)
 (.test (decide (0 ≤ at'))
 (.test (decide ((0 ≤ (Int.toNat at')) ∧ ((Int.toNat at') ≤ (List.length quiddity))))
 (.sub (F106 (win quiddity 0 ((Int.toNat at') - 0))) fun z2 =>
 (.test true
 (.test (decide ((0 + (List.length z2.2)) ≤ (List.length z2.2)))
 (.test (decide ((2 * (((List.length z2.2) + 1) * 9)) ≤ 140737488355328))
 (.test (decide (0 ≤ at'))
 (.test (decide (((Int.toNat at') ≤ (List.length quiddity)) ∧ ((List.length quiddity) ≤ (List.length quiddity))))
 (.test (decide ((0 + ((List.length z2.2) + 1)) ≤ (List.length ((win z2.2 0 (List.length z2.2)) ++ (win (List.set (List.replicate 1 (0 : Int)) 0 (1 : Int)) 0 1)))))
 (.test (decide ((2 * ((((List.length z2.2) + 1) + (List.length (win quiddity (Int.toNat at') ((List.length quiddity) - (Int.toNat at'))))) * 9)) ≤ 140737488355328))
 (.test (decide ((0 ≤ (w64 (at' - 1))) ∧ ((w64 (at' - 1)) < ((((List.length z2.2) + 1) + (List.length (win quiddity (Int.toNat at') ((List.length quiddity) - (Int.toNat at'))))) : Int))))
 (.sub (((win ((win z2.2 0 (List.length z2.2)) ++ (win (List.set (List.replicate 1 (0 : Int)) 0 (1 : Int)) 0 1)) 0 ((List.length z2.2) + 1)) ++ (win quiddity (Int.toNat at') ((List.length quiddity) - (Int.toNat at'))))[(0 + (Int.toNat (w64 (at' - 1))))]?) fun z3 =>
 (.test (decide ((0 ≤ (w64 (at' - 1))) ∧ ((w64 (at' - 1)) < ((((List.length z2.2) + 1) + (List.length (win quiddity (Int.toNat at') ((List.length quiddity) - (Int.toNat at'))))) : Int))))
 (.sub (((win ((win z2.2 0 (List.length z2.2)) ++ (win (List.set (List.replicate 1 (0 : Int)) 0 (1 : Int)) 0 1)) 0 ((List.length z2.2) + 1)) ++ (win quiddity (Int.toNat at') ((List.length quiddity) - (Int.toNat at'))))[(0 + (Int.toNat (w64 (at' - 1))))]?) fun z4 =>
 (.test (decide ((w64 (((List.length quiddity) : Int) + 1)) ≠ 0))
 (.test (decide ((0 ≤ (Int.tmod (w64 (at' + 1)) (w64 (((List.length quiddity) : Int) + 1)))) ∧ ((Int.tmod (w64 (at' + 1)) (w64 (((List.length quiddity) : Int) + 1))) < ((((List.length z2.2) + 1) + (List.length (win quiddity (Int.toNat at') ((List.length quiddity) - (Int.toNat at'))))) : Int))))
 (.sub ((List.set ((win ((win z2.2 0 (List.length z2.2)) ++ (win (List.set (List.replicate 1 (0 : Int)) 0 (1 : Int)) 0 1)) 0 ((List.length z2.2) + 1)) ++ (win quiddity (Int.toNat at') ((List.length quiddity) - (Int.toNat at')))) (0 + (Int.toNat (w64 (at' - 1)))) (w64 (z3 + 1)))[(0 + (Int.toNat (Int.tmod (w64 (at' + 1)) (w64 (((List.length quiddity) : Int) + 1)))))]?) fun z5 =>
 (.test (decide ((0 ≤ (Int.tmod (w64 (at' + 1)) (w64 (((List.length quiddity) : Int) + 1)))) ∧ ((Int.tmod (w64 (at' + 1)) (w64 (((List.length quiddity) : Int) + 1))) < ((((List.length z2.2) + 1) + (List.length (win quiddity (Int.toNat at') ((List.length quiddity) - (Int.toNat at'))))) : Int))))
 (.sub ((List.set ((win ((win z2.2 0 (List.length z2.2)) ++ (win (List.set (List.replicate 1 (0 : Int)) 0 (1 : Int)) 0 1)) 0 ((List.length z2.2) + 1)) ++ (win quiddity (Int.toNat at') ((List.length quiddity) - (Int.toNat at')))) (0 + (Int.toNat (w64 (at' - 1)))) (w64 (z3 + 1)))[(0 + (Int.toNat (Int.tmod (w64 (at' + 1)) (w64 (((List.length quiddity) : Int) + 1)))))]?) fun z6 =>
 (.test (decide ((0 = 0) ∧ ((((List.length z2.2) + 1) + (List.length (win quiddity (Int.toNat at') ((List.length quiddity) - (Int.toNat at'))))) = (List.length (List.set (List.set ((win ((win z2.2 0 (List.length z2.2)) ++ (win (List.set (List.replicate 1 (0 : Int)) 0 (1 : Int)) 0 1)) 0 ((List.length z2.2) + 1)) ++ (win quiddity (Int.toNat at') ((List.length quiddity) - (Int.toNat at')))) (0 + (Int.toNat (w64 (at' - 1)))) (w64 (z3 + 1))) (0 + (Int.toNat (Int.tmod (w64 (at' + 1)) (w64 (((List.length quiddity) : Int) + 1))))) (w64 (z5 + 1)))))))
 (.ret (((), true), (List.set (List.set ((win ((win z2.2 0 (List.length z2.2)) ++ (win (List.set (List.replicate 1 (0 : Int)) 0 (1 : Int)) 0 1)) 0 ((List.length z2.2) + 1)) ++ (win quiddity (Int.toNat at') ((List.length quiddity) - (Int.toNat at')))) (0 + (Int.toNat (w64 (at' - 1)))) (w64 (z3 + 1))) (0 + (Int.toNat (Int.tmod (w64 (at' + 1)) (w64 (((List.length quiddity) : Int) + 1))))) (w64 (z5 + 1)))))
 .fail))
 .fail))
 .fail)
 .fail))
 .fail))
 .fail)
 .fail)
 .fail)
 .fail)
 .fail)
 .fail)
 .fail)
 .fail))
 .fail)
 .fail))))))
noncomputable def F91 (v : (List (Int) × Int)) : Option ((Unit × Bool) × List (Int)) := (F91_t v).run
noncomputable def F91_E : TEnv := (((E0.add1 n_F72 F72_sh F72_fo F72).add1 n_F114 F114_sh F114_fo F114).add1 n_F106 F106_sh F106_fo F106)
theorem F91_Eok : (F91_E).OK := (((E0ok.add1 F72_ok).add1 F114_ok).add1 F106_ok)
noncomputable def F91_told : Nat → Option SealT := fun id => none
theorem F91_ok : FOK Tryz.prog n_F91 F91_sh F91_fo F91 :=
  fn_ok (E := F91_E) (F91_Eok) (told := F91_told) (fl := []) (c := bodyOf fn_F91) (s := F91_sh) (l := F91_fo) (tree := F91_t) fnat_F91 (by kernel_rfl) (by kernel_rfl) (by kernel_rfl) (loopsOK_of (ls := []) (by kernel_rfl) trivial) (fun v => by kernel_rfl)

theorem F91_eq (q : List Int) (at' : Nat) (hq : (trOf q).isSome = true) (hl : 3 ≤ q.length) (hl2 : q.length ≤ 11) (hv : ∀ v ∈ q, 1 ≤ v ∧ v ≤ 12) (h1 : 1 ≤ at') (h2 : at' ≤ q.length) :
    F91 (q, (at' : Int)) = some (((), true), glueL q at') := by
  obtain ⟨f1, f2, f3, f4⟩ := glueL_facts h1 h2 hl hv
  have hb : inB 1 (q.length : Int) (at' : Int) = true := inB_iff.2 (by omega)
  have h12 : ((q.length : Int) == 12) = false := by simp; omega
  have lt : (q.take at').length = at' := by simp; omega
  have ld : (q.drop at').length = q.length - at' := by simp
  have hown := F106_eq (q.take at') (by omega)
  have e1 : win q 0 (at' - 0) = q.take at' := win_take _ _
  have e2 : win q at' (q.length - at') = q.drop at' := by unfold win; rw [List.take_of_length_le (by omega)]
  have e3 : win (q.take at') 0 at' = q.take at' := by rw [win_take, List.take_take, Nat.min_self]
  have l3 : (q.take at' ++ [1]).length = at' + 1 := by simp; omega
  have e4 : win (q.take at' ++ [1]) 0 (at' + 1) = q.take at' ++ [1] := by rw [← l3]; exact win_all _
  have e5 : q.take at' ++ [1] ++ q.drop at' = q.take at' ++ 1 :: q.drop at' := by simp
  have w1 : w64 ((at' : Int) - 1) = ((at' - 1 : Nat) : Int) := by rw [w64_id (by omega) (by omega)]; omega
  have w2 : w64 ((at' : Int) + 1) = ((at' + 1 : Nat) : Int) := by rw [w64_id (by omega) (by omega)]; omega
  have w3 : w64 ((q.length : Int) + 1) = ((q.length + 1 : Nat) : Int) := by rw [w64_id (by omega) (by omega)]; omega
  have w4 : Int.tmod ((at' + 1 : Nat) : Int) ((q.length + 1 : Nat) : Int) = (((at' + 1) % (q.length + 1) : Nat) : Int) := by
    rw [Int.tmod_eq_emod_of_nonneg (by omega)]; exact (Int.natCast_emod _ _).symm
  generalize hm : q.take at' ++ 1 :: q.drop at' = m at *
  generalize hc2 : (at' + 1) % (q.length + 1) = c at *
  have b1 := f2 (at' - 1) (by omega)
  have b2 := f2 c f3
  have g1 := set_getD (l := m) (p := at' - 1) (by omega)
  have e6 : (m.set (at' - 1) (m.getD (at' - 1) 0 + 1)).getD c 0 = m.getD c 0 := by
    simp only [List.getD_eq_getElem?_getD]
    rw [List.getElem?_set_ne (Ne.symm f4)]
  have g2 := set_getD (l := m.set (at' - 1) (m.getD (at' - 1) 0 + 1)) (p := c) (by simp; omega)
  have w5 : w64 (m.getD (at' - 1) 0 + 1) = m.getD (at' - 1) 0 + 1 := w64_id (by omega) (by omega)
  have w6 : w64 ((m.set (at' - 1) (m.getD (at' - 1) 0 + 1)).getD c 0 + 1) = (m.set (at' - 1) (m.getD (at' - 1) 0 + 1)).getD c 0 + 1 := by rw [e6]; exact w64_id (by omega) (by omega)
  have q1 : at' + 1 + (q.length - at') = q.length + 1 := by omega
  have c1 : (0 : Int) ≤ ((at' - 1 : Nat) : Int) ∧ ((at' - 1 : Nat) : Int) < ((q.length + 1 : Nat) : Int) := by omega
  have c2 : (0 : Int) ≤ (c : Int) ∧ (c : Int) < ((q.length + 1 : Nat) : Int) := by omega
  have c3 : ((q.length + 1 : Nat) : Int) ≠ 0 := by omega
  have c4 : (0 : Int) ≤ (at' : Int) := by omega
  have c5 : 0 ≤ at' ∧ at' ≤ q.length := by omega
  have c6 : at' ≤ q.length ∧ q.length ≤ q.length := by omega
  have c7 : 2 * ((at' + 1) * 9) ≤ 140737488355328 := by omega
  have c8 : 2 * ((q.length + 1) * 9) ≤ 140737488355328 := by omega
  have c9 : 0 + (at' + 1) ≤ at' + 1 := by omega
  have hg : glueL q at' = (m.set (at' - 1) (m.getD (at' - 1) 0 + 1)).set c ((m.set (at' - 1) (m.getD (at' - 1) 0 + 1)).getD c 0 + 1) := by
    unfold glueL
    rw [hm, hc2]
  have x1 : ((at' : Int) + 1 + ((q.length - at' : Nat) : Int)) = ((q.length + 1 : Nat) : Int) := by omega
  simp only [F91, F91_t, T.run, F72_eq q (by omega), hq, Option.bind_some, Bool.not_true, Bool.false_eq_true, if_false, F114_eq, hb, h12, c4, c5, c6, decide_true, if_true, and_self, Int.toNat_natCast, e1, e2, hown, lt, ld, e3, win_one, l3, e4, e5, q1, c7, c8, c9, w1, w2, w3, w4, x1, c1, c2, c3, ne_eq, not_false_eq_true, Nat.zero_add, Nat.le_refl, g1, w5, g2, w6, List.length_set, f1, hg]


def F107_sh : FSh := ⟨[(.ag [(.sl (.int .i64) false false)]), (.one (.si .i64)), (.one (.si .i64))], []⟩

def F107_fo : List FO := [⟨[(.ag [(.rw 0 0)])], [(.row 0 (.int .i64))]⟩]
noncomputable def F107_t : (List (Int) × Int × Int) → T (Unit × List (Int)) := fun (p_0, at', number) =>
 (.sub (F106 p_0) fun z0 =>
 (.test (decide ((0 ≤ at') ∧ (at' < ((List.length z0.2) : Int))))
 (.sub (z0.2[(0 + (Int.toNat at'))]?) fun z1 =>
 (.test (decide ((0 = 0) ∧ ((List.length z0.2) = (List.length (List.set z0.2 (0 + (Int.toNat at')) number)))))
 (.ret ((), (List.set z0.2 (0 + (Int.toNat at')) number)))
 .fail))
 .fail))
noncomputable def F107 (v : (List (Int) × Int × Int)) : Option (Unit × List (Int)) := (F107_t v).run
noncomputable def F107_E : TEnv := (E0.add1 n_F106 F106_sh F106_fo F106)
theorem F107_Eok : (F107_E).OK := (E0ok.add1 F106_ok)
noncomputable def F107_told : Nat → Option SealT := fun id => none
theorem F107_ok : FOK Tryz.prog n_F107 F107_sh F107_fo F107 :=
  fn_ok (E := F107_E) (F107_Eok) (told := F107_told) (fl := []) (c := bodyOf fn_F107) (s := F107_sh) (l := F107_fo) (tree := F107_t) fnat_F107 (by kernel_rfl) (by kernel_rfl) (by kernel_rfl) (loopsOK_of (ls := []) (by kernel_rfl) trivial) (fun v => by kernel_rfl)

theorem F107_eq (l : List Int) (at' n : Int) (hl : l.length < 1000000000000) (h1 : 0 ≤ at') (h2 : at' < l.length) : F107 (l, at', n) = some ((), l.set at'.toNat n) := by
  have h3 : at'.toNat < l.length := by omega
  simp [F107, F107_t, T.run, F106_eq l hl, h1, h2, h3]


def F73_sh : FSh := ⟨[(.one (.si .i64)), (.one (.si .i64)), (.one (.si .i64))], []⟩

def F73_L5_sh : LSh := ⟨(fun ex => match ex with | .norm => [(0, none), (1, none), (6, none), (8, none), (9, none)] | .exit i => if i = 0 then [(1, none), (6, none), (8, none), (9, none)] else [] | .ret => [(6, none), (7, none)]), [(0, (.one (.si .i64))), (1, (.one (.si .i64))), (6, (.one (.pf 0 0 0))), (8, (.one (.si .i64))), (9, (.one (.rw 1 0)))], [(.rcd 0 [(.nl true true)]), (.row 0 (.int .i64))], [⟨(.exit 0), [(1, (.one (.si .i64))), (6, (.one (.pf 0 0 0))), (8, (.one (.si .i64))), (9, (.one (.rw 1 0)))], [(.rcd 0 [(.nl true true)]), (.row 0 (.int .i64))]⟩], [], []⟩
noncomputable def F73_L5_step : ((Int × Int × Unit × Int × Unit) × (Unit × List (Int))) → T (((Int × Int × Unit × Int × Unit) × (Unit × List (Int))) ⊕ ((Int × Unit × Int × Unit) × (Unit × List (Int)))) := fun ((n, gaps, (), z, ()), ((), q)) =>
 (.test (decide (((List.length q) : Int) < n))
 (.test true
 (.test (decide (((List.length q) : Int) ≠ 0))
 (.test (decide ((0 + (List.length q)) ≤ (List.length q)))
 (.sub (F91 ((win q 0 (List.length q)), (w64 ((Int.tmod (Int.tmod (w64 ((w64 (z * 187)) + 3301)) (10007 : Int)) ((List.length q) : Int)) + 1)))) fun z0 =>
 (.test (decide ((0 = 0) ∧ ((List.length z0.2) = (List.length z0.2))))
 (.ret (Sum.inl ((n, (gaps, ((), ((Int.tmod (w64 ((w64 (z * 187)) + 3301)) (10007 : Int)), ())))), ((), z0.2))))
 .fail))
 .fail)
 .fail)
 .fail)
 (.test (decide ((0 = 0) ∧ ((List.length q) = (List.length q))))
 (.ret (Sum.inr ((gaps, ((), (z, ()))), ((), q))))
 .fail))
noncomputable def F73_L5 (v : ((Int × Int × Unit × Int × Unit) × (Unit × List (Int)))) : Option ((Int × Unit × Int × Unit) × (Unit × List (Int))) := loopO (fun v => (F73_L5_step v).run) v

def F73_L13_sh : LSh := ⟨(fun ex => match ex with | .norm => [(1, none), (6, none), (8, none), (10, none), (11, none), (57, none), (58, none), (59, none)] | .exit i => if i = 4 then [(1, none), (6, none), (8, none), (10, none), (11, none)] else if i = 3 then [(1, none), (6, none), (8, none), (10, none)] else if i = 2 then [(6, none), (10, none)] else [] | .ret => [(6, none), (7, none)]), [(1, (.one (.si .i64))), (6, (.one (.pf 0 0 0))), (8, (.one (.si .i64))), (10, (.one (.pf 1 0 0))), (11, (.one (.rw 3 0))), (57, (.one (.rw 2 0))), (58, (.one (.si .i64))), (59, (.one (.si .i64)))], [(.rcd 0 [(.nl true true)]), (.rcd 0 [(.rw 2 0)]), (.row 0 (.int .i64)), (.row 0 (.int .i64))], [⟨(.exit 4), [(1, (.one (.si .i64))), (6, (.one (.pf 0 0 0))), (8, (.one (.si .i64))), (10, (.one (.pf 1 0 0))), (11, (.one (.rw 3 0)))], [(.rcd 0 [(.nl true true)]), (.rcd 0 [(.rw 2 0)]), (.row 0 (.int .i64)), (.row 0 (.int .i64))]⟩], [], []⟩
noncomputable def F73_L13_step : ((Int × Unit × Int × Unit × Unit × Unit × Int × Int) × (Unit × Unit × List (Int) × List (Int))) → T (((Int × Unit × Int × Unit × Unit × Unit × Int × Int) × (Unit × Unit × List (Int) × List (Int))) ⊕ ((Int × Unit × Int × Unit × Unit) × (Unit × Unit × List (Int) × List (Int)))) := fun ((gaps, (), z, (), (), (), t58, t59), ((), (), t57, full)) =>
 (.test (decide (t59 < t58))
 (.test (decide ((0 ≤ t59) ∧ (t59 < ((List.length t57) : Int))))
 (.sub (t57[(0 + (Int.toNat t59))]?) fun z0 =>
 (.test (decide (z0 > 0))
 (.test (decide (1 ≤ (List.length (List.set (List.replicate 1 (0 : Int)) 0 t59))))
 (.test (decide ((0 + (List.length full)) ≤ (List.length full)))
 (.test (decide ((2 * (((List.length full) + (List.length (win (List.set (List.replicate 1 (0 : Int)) 0 t59) 0 1))) * 9)) ≤ 140737488355328))
 (.test (decide ((0 = 0) ∧ (((List.length full) + (List.length (win (List.set (List.replicate 1 (0 : Int)) 0 t59) 0 1))) = (List.length ((win full 0 (List.length full)) ++ (win (List.set (List.replicate 1 (0 : Int)) 0 t59) 0 1))))))
 (.test (decide ((0 = 0) ∧ ((List.length t57) = (List.length t57))))
 (.test (decide ((0 = 0) ∧ ((List.length t57) = (List.length t57))))
 (.ret (Sum.inl ((gaps, ((), (z, ((), ((), ((), (t58, (w64 (t59 + 1))))))))), ((), ((), (t57, ((win full 0 (List.length full)) ++ (win (List.set (List.replicate 1 (0 : Int)) 0 t59) 0 1))))))))
 .fail)
 .fail)
 .fail)
 .fail)
 .fail)
 .fail)
 (.test (decide ((0 = 0) ∧ ((List.length full) = (List.length full))))
 (.test (decide ((0 = 0) ∧ ((List.length t57) = (List.length t57))))
 (.test (decide ((0 = 0) ∧ ((List.length t57) = (List.length t57))))
 (.ret (Sum.inl ((gaps, ((), (z, ((), ((), ((), (t58, (w64 (t59 + 1))))))))), ((), ((), (t57, full))))))
 .fail)
 .fail)
 .fail)))
 .fail)
 (.test (decide ((0 = 0) ∧ ((List.length full) = (List.length full))))
 (.test (decide ((0 = 0) ∧ ((List.length t57) = (List.length t57))))
 (.ret (Sum.inr ((gaps, ((), (z, ((), ())))), ((), ((), (t57, full))))))
 .fail)
 .fail))
noncomputable def F73_L13 (v : ((Int × Unit × Int × Unit × Unit × Unit × Int × Int) × (Unit × Unit × List (Int) × List (Int)))) : Option ((Int × Unit × Int × Unit × Unit) × (Unit × Unit × List (Int) × List (Int))) := loopO (fun v => (F73_L13_step v).run) v

def F73_L9_sh : LSh := ⟨(fun ex => match ex with | .norm => [(1, none), (6, none), (8, none), (10, none)] | .exit i => if i = 2 then [(6, none), (10, none)] else [] | .ret => [(6, none), (7, none)]), [(1, (.one (.si .i64))), (6, (.one (.pf 0 0 0))), (8, (.one (.si .i64))), (10, (.one (.pf 1 0 0)))], [(.rcd 0 [(.nl true true)]), (.rcd 0 [(.rw 2 0)]), (.row 0 (.int .i64))], [⟨(.exit 2), [(6, (.one (.pf 0 0 0))), (10, (.one (.pf 1 0 0)))], [(.rcd 0 [(.nl true true)]), (.rcd 0 [(.rw 2 0)]), (.row 0 (.int .i64))]⟩], [], []⟩
noncomputable def F73_L9_step : ((Int × Unit × Int × Unit) × (Unit × Unit × List (Int))) → T (((Int × Unit × Int × Unit) × (Unit × Unit × List (Int))) ⊕ ((Unit × Unit) × (Unit × Unit × List (Int)))) := fun ((gaps, (), z, ()), ((), (), p_r)) =>
 (.test (decide (gaps > 0))
 (.test (decide ((0 = 0) ∧ (0 = (List.length ([] : List (Int))))))
 (.test (decide ((0 = 0) ∧ ((List.length p_r) = (List.length p_r))))
 (.test (decide ((0 = 0) ∧ ((List.length p_r) = (List.length p_r))))
 (.sub (F73_L13 ((gaps, ((), (z, ((), ((), ((), (((List.length p_r) : Int), (0 : Int)))))))), ((), ((), (p_r, ([] : List (Int))))))) fun z0 =>
 (.test true
 (.test (decide (((List.length z0.2.2.2.2) : Int) ≠ 0))
 (.test (decide ((0 ≤ (Int.tmod (Int.tmod (w64 ((w64 (z0.1.2.2.1 * 187)) + 3301)) (10007 : Int)) ((List.length z0.2.2.2.2) : Int))) ∧ ((Int.tmod (Int.tmod (w64 ((w64 (z0.1.2.2.1 * 187)) + 3301)) (10007 : Int)) ((List.length z0.2.2.2.2) : Int)) < ((List.length z0.2.2.2.2) : Int))))
 (.sub (z0.2.2.2.2[(0 + (Int.toNat (Int.tmod (Int.tmod (w64 ((w64 (z0.1.2.2.1 * 187)) + 3301)) (10007 : Int)) ((List.length z0.2.2.2.2) : Int))))]?) fun z1 =>
 (.test (decide ((0 + (List.length z0.2.2.2.1)) ≤ (List.length z0.2.2.2.1)))
 (.sub (F107 ((win z0.2.2.2.1 0 (List.length z0.2.2.2.1)), (z1, (0 : Int)))) fun z2 =>
 (.test (decide ((0 = 0) ∧ ((List.length z2.2) = (List.length z2.2))))
 (.ret (Sum.inl (((w64 (z0.1.1 - 1)), ((), ((Int.tmod (w64 ((w64 (z0.1.2.2.1 * 187)) + 3301)) (10007 : Int)), ()))), ((), ((), z2.2)))))
 .fail))
 .fail))
 .fail)
 .fail)
 .fail))
 .fail)
 .fail)
 .fail)
 (.test (decide ((0 = 0) ∧ ((List.length p_r) = (List.length p_r))))
 (.ret (Sum.inr (((), ()), ((), ((), p_r)))))
 .fail))
noncomputable def F73_L9 (v : ((Int × Unit × Int × Unit) × (Unit × Unit × List (Int)))) : Option ((Unit × Unit) × (Unit × Unit × List (Int))) := loopO (fun v => (F73_L9_step v).run) v

def F73_w_fo : List FO := [⟨[(.ag [(.nl true true)]), (.one .sb)], []⟩, ⟨[(.ag [(.rw 0 0)]), (.one .sb)], [(.row 0 (.int .i64))]⟩]
noncomputable def F73_t : (Int × Int × Int) → T ((Unit × Bool) ⊕ ((Unit × Bool) × List (Int))) := fun (n, gaps, seed) =>
 (.sub (F114 (n, ((3 : Int), (9 : Int)))) fun z0 =>
 (.test (! z0)
 (.ret (Sum.inl ((), false)))
 (.sub (F114 (gaps, ((0 : Int), n))) fun z1 =>
 (.test (! z1)
 (.ret (Sum.inl ((), false)))
 (.sub (F114 (seed, ((0 : Int), (9999 : Int)))) fun z2 =>
 (.test (! z2)
 (.ret (Sum.inl ((), false)))
 (.test true
 (.sub (F73_L5 ((n, (gaps, ((), (seed, ())))), ((), (List.set (List.set (List.set (List.replicate 3 (0 : Int)) 0 (1 : Int)) 1 (1 : Int)) 2 (1 : Int))))) fun z3 =>
 (.test (decide ((0 + (List.length z3.2.2)) ≤ (List.length z3.2.2)))
 (.sub (F106 (win z3.2.2 0 (List.length z3.2.2))) fun z4 =>
 (.test (decide ((0 = 0) ∧ ((List.length z4.2) = (List.length z4.2))))
 (.sub (F73_L9 ((z3.1.1, ((), (z3.1.2.2.1, ()))), ((), ((), z4.2)))) fun z5 =>
 (.test (decide ((0 = 0) ∧ ((List.length z5.2.2.2) = (List.length z5.2.2.2))))
 (.ret (Sum.inr (((), true), z5.2.2.2)))
 .fail))
 .fail))
 .fail))
 .fail)))))))
noncomputable def F73_w (v : (Int × Int × Int)) : Option ((Unit × Bool) ⊕ ((Unit × Bool) × List (Int))) := (F73_t v).run
noncomputable def F73_E : TEnv := ((((E0.add1 n_F114 F114_sh F114_fo F114).add1 n_F91 F91_sh F91_fo F91).add1 n_F106 F106_sh F106_fo F106).add1 n_F107 F107_sh F107_fo F107)
theorem F73_Eok : (F73_E).OK := ((((E0ok.add1 F114_ok).add1 F91_ok).add1 F106_ok).add1 F107_ok)
noncomputable def F73_told : Nat → Option SealT := fun id => if id = 5 then some (LSh.told F73_L5_sh 0 (F73_L5_step)) else if id = 13 then some (LSh.told F73_L13_sh 0 (F73_L13_step)) else if id = 9 then some (LSh.told F73_L9_sh 0 (F73_L9_step)) else none
theorem F73_L5_ok : ToldOK Tryz.prog 0 (loopAt (bodyOf fn_F73) [0]) (LSh.told F73_L5_sh 0 (F73_L5_step)) :=
  loop_ok (E := F73_E) (F73_Eok) (told := F73_told) (l := F73_L5_sh) (step := F73_L5_step) (loopsOK_of (ls := []) (by kernel_rfl) trivial) (by kernel_rfl) (fun v => by kernel_rfl)
theorem F73_L13_ok : ToldOK Tryz.prog 0 (loopAt (bodyOf fn_F73) [1, 0]) (LSh.told F73_L13_sh 0 (F73_L13_step)) :=
  loop_ok (E := F73_E) (F73_Eok) (told := F73_told) (l := F73_L13_sh) (step := F73_L13_step) (loopsOK_of (ls := []) (by kernel_rfl) trivial) (by kernel_rfl) (fun v => by kernel_rfl)
theorem F73_L9_ok : ToldOK Tryz.prog 0 (loopAt (bodyOf fn_F73) [1]) (LSh.told F73_L9_sh 0 (F73_L9_step)) :=
  loop_ok (E := F73_E) (F73_Eok) (told := F73_told) (l := F73_L9_sh) (step := F73_L9_step) (loopsOK_of (ls := [loopAt (bodyOf fn_F73) [1, 0]]) (by kernel_rfl) ⟨.inr ⟨_, by kernel_rfl, F73_L13_ok⟩, trivial⟩) (by kernel_rfl) (fun v => by kernel_rfl)
theorem F73_w_ok : FOK Tryz.prog n_F73 F73_sh F73_w_fo F73_w :=
  fn_ok (E := F73_E) (F73_Eok) (told := F73_told) (fl := []) (c := bodyOf fn_F73) (s := F73_sh) (l := F73_w_fo) (tree := F73_t) fnat_F73 (by kernel_rfl) (by kernel_rfl) (by kernel_rfl) (loopsOK_of (ls := [loopAt (bodyOf fn_F73) [0], loopAt (bodyOf fn_F73) [1]]) (by kernel_rfl) ⟨.inr ⟨_, by kernel_rfl, F73_L5_ok⟩, ⟨.inr ⟨_, by kernel_rfl, F73_L9_ok⟩, trivial⟩⟩) (fun v => by kernel_rfl)
def F73_fo : List FO := [⟨[(.ag [(.rw 0 0)]), (.one .sb)], [(.row 0 (.int .i64))]⟩]
def F73_m : ((Unit × Bool) ⊕ ((Unit × Bool) × List (Int))) → ((Unit × Bool) × List (Int)) := fun o => match o with | (.inl a) => (a, []) | (.inr x) => x
noncomputable def F73 (v : (Int × Int × Int)) : Option ((Unit × Bool) × List (Int)) := (F73_w v).map F73_m
theorem F73_ok : FOK Tryz.prog n_F73 F73_sh F73_fo F73 :=
  FOK.own (l' := F73_fo) F73_w_ok F73_m [(.int .i64)] (by decide) (fun o => match o with | (.inl a) => .inr (by kernel_rfl) | (.inr x) => .inl (by kernel_rfl))

theorem F73_glue (n gaps : Int) : ∀ (m k : Nat) (q : List Int) (z : Int), q ∈ glued k → k + m ≤ 6 → (k + 3 + m : Nat) = n → 0 ≤ z → z < 10007 →
    F73_L5 ((n, (gaps, ((), (z, ())))), ((), q)) = some ((gaps, ((), ((mkN m q z).2, ()))), ((), (mkN m q z).1))
  | 0, k, q, z, hq, hk, hn, h1, h2 => by
    obtain ⟨_, g1, _⟩ := glued_ok k q hq
    simp only [F73_L5, mkN]
    refine loopO_done ?_
    have : ¬ ((q.length : Int) < n) := by omega
    simp [F73_L5_step, T.run, this]
  | m + 1, k, q, z, hq, hk, hn, h1, h2 => by
    obtain ⟨g0, g1, g2⟩ := glued_ok k q hq
    have hr := rI_B z
    have hj : (rI z % (q.length : Int)).toNat < k + 3 := by have := Int.emod_lt_of_pos (rI z) (show (0 : Int) < (q.length : Int) by omega); omega
    have hnn : 0 ≤ rI z % (q.length : Int) := Int.emod_nonneg _ (by omega)
    have st : (F73_L5_step ((n, (gaps, ((), (z, ())))), ((), q))).run = some (.inl ((n, (gaps, ((), (rI z, ())))), ((), glueL q ((rI z % (q.length : Int)).toNat + 1)))) := by
      have c0 : (q.length : Int) < n := by omega
      have c1 : (q.length : Int) ≠ 0 := by omega
      have w0 : Int.tmod (rI z) (q.length : Int) = rI z % (q.length : Int) := Int.tmod_eq_emod_of_nonneg (by omega)
      have w1 : w64 (rI z % (q.length : Int) + 1) = (((rI z % (q.length : Int)).toNat + 1 : Nat) : Int) := by rw [w64_id (by omega) (by omega)]; omega
      have hg := F91_eq q ((rI z % (q.length : Int)).toNat + 1) g0 (by omega) (by omega) g2 (by omega) (by omega)
      simp only [F73_L5_step, T.run, c0, c1, ne_eq, not_false_eq_true, decide_true, if_true, rI_w h1 h2, w0, Option.bind_some, Nat.zero_add, Nat.le_refl, win_all, w1, hg, and_self]
    by_cases h5 : k < 5
    · have ih := F73_glue n gaps m (k + 1) _ (rI z) (glued_go k h5 q hq _ hj) (by omega) (by omega) hr.1 hr.2
      simp only [F73_L5, mkN] at ih ⊢
      rw [loopO_next st, ih]
    · have hm0 : m = 0 := by omega
      subst hm0
      simp only [F73_L5, mkN]
      rw [loopO_next st]
      refine loopO_done ?_
      have hlen : (glueL q ((rI z % (q.length : Int)).toNat + 1)).length = q.length + 1 := by
        have f1 := (glueL_facts (q := q) (at' := (rI z % (q.length : Int)).toNat + 1) (by omega) (by omega) (by omega) g2).1
        unfold glueL; simp only [List.length_set, f1]
      have : ¬ (((q.length + 1 : Nat) : Int) < n) := by omega
      simp only [F73_L5_step, T.run, hlen, this, decide_false]
      simp
theorem F73_places (q : List Int) (g z : Int) (hl : q.length < 1000) : F73_L13 ((g, ((), (z, ((), ((), ((), ((q.length : Int), (0 : Int)))))))), ((), ((), (q, ([] : List Int))))) = some ((g, ((), (z, ((), ())))), ((), ((), (q, pl q)))) := by
  have h := loop_fold (step := fun v => (F73_L13_step v).run) (xs := List.range q.length) (fun k (s : List Int) => s.length ≤ k) (fun k s => ((g, ((), (z, ((), ((), ((), ((q.length : Int), (k : Int)))))))), ((), ((), (q, s))))) (plG q) (fun s => ((g, ((), (z, ((), ())))), ((), ((), (q, s)))))
    (fun k s x hP hx => by
      obtain ⟨hk, e⟩ := List.getElem?_eq_some_iff.1 hx
      simp only [List.getElem_range] at e
      subst e
      rw [List.length_range] at hk
      have g0 := set_getD hk
      have c0 : (k : Int) < (q.length : Int) := by omega
      have c1 : (0 : Int) ≤ (k : Int) ∧ (k : Int) < (q.length : Int) := by omega
      have c2 : 2 * ((s.length + 1) * 9) ≤ 140737488355328 := by omega
      have w1 : w64 ((k : Int) + 1) = ((k + 1 : Nat) : Int) := by rw [w64_id (by omega) (by omega)]; omega
      by_cases hz : q.getD k 0 > 0
      · have e : plG q s k = s ++ [(k : Int)] := by unfold plG; rw [if_pos hz]
        refine ⟨?_, by rw [e]; simp; omega⟩
        rw [e]
        simp only [F73_L13_step, T.run, c0, c1, decide_true, if_true, and_self, Int.toNat_natCast, Nat.zero_add, g0, Option.bind_some, hz, win_one, win_all, w1, List.length_cons, List.length_nil, c2, List.length_set, List.length_replicate, Nat.le_refl, List.length_append]
      · have e : plG q s k = s := by unfold plG; rw [if_neg hz]
        refine ⟨?_, by rw [e]; omega⟩
        rw [e]
        simp only [F73_L13_step, T.run, c0, c1, decide_true, if_true, and_self, Int.toNat_natCast, Nat.zero_add, g0, Option.bind_some, hz, decide_false, Bool.false_eq_true, if_false, w1])
    (fun s hs => by simp [F73_L13_step, T.run])
    [] (by simp)
  simp only [Int.natCast_zero] at h
  simp only [F73_L13]
  exact h.1
theorem F73_gaps : ∀ (m : Nat) (q : List Int) (z : Int), q.length < 1000 → m < 1000 → m ≤ (pl q).length → 0 ≤ z → z < 10007 →
    F73_L9 (((m : Int), ((), (z, ()))), ((), ((), q))) = some (((), ()), ((), ((), gapN m q z)))
  | 0, q, z, hl, hm, hp, h1, h2 => by
    simp only [F73_L9, gapN]
    refine loopO_done ?_
    simp [F73_L9_step, T.run]
  | m + 1, q, z, hl, hm, hp, h1, h2 => by
    have hr := rI_B z
    obtain ⟨p1, p2, p3, p4⟩ := pl_pick (q := q) (z := z) (by omega)
    obtain ⟨b1, b2, b3⟩ := pl_mem p4
    have hs := pl_set p4
    have ih := F73_gaps m (q.set ((pl q).getD (rI z % ((pl q).length : Int)).toNat 0).toNat 0) (rI z) (by simpa using hl) (by omega) (by omega) hr.1 hr.2
    simp only [F73_L9, gapN] at ih ⊢
    rw [← ih]
    refine loopO_next ?_
    have c0 : ((m + 1 : Nat) : Int) > 0 := by omega
    have w1 : w64 (((m + 1 : Nat) : Int) - 1) = (m : Int) := by rw [w64_id (by omega) (by omega)]; omega
    have w0 : Int.tmod (rI z) ((pl q).length : Int) = rI z % ((pl q).length : Int) := Int.tmod_eq_emod_of_nonneg (by omega)
    have c1 : 0 ≤ rI z % ((pl q).length : Int) ∧ rI z % ((pl q).length : Int) < ((pl q).length : Int) := ⟨p1, p2⟩
    have c3 : ((pl q).length : Int) ≠ 0 := by omega
    have hpp := F107_eq q ((pl q).getD (rI z % ((pl q).length : Int)).toNat 0) 0 (by omega) b1 b2
    simp only [F73_L9_step, T.run, c0, decide_true, if_true, true_and, List.length_nil, F73_places q _ z hl, Option.bind_some, rI_w h1 h2, w0, c1, c3, ne_eq, not_false_eq_true, and_self, Nat.zero_add, p3, Nat.le_refl, win_all, hpp, List.length_set, w1]
theorem F73_eq (n g s : Int) : F73 (n, (g, s)) = some (((), (mkPz n g s).1), (mkPz n g s).2) := by
  simp only [F73, F73_w, F73_t, T.run, F114_eq, Option.bind_some, mkPz]
  cases hn : inB 3 9 n with
  | false => simp [F73_m]
  | true =>
    cases hg : inB 0 n g with
    | false => simp [F73_m]
    | true =>
      cases hs : inB 0 9999 s with
      | false => simp [F73_m]
      | true =>
        obtain ⟨m, m1, m2, m3, s1, s2, hq⟩ := mk_start n hn s hs
        have hset : List.set (List.set (List.set (List.replicate 3 (0 : Int)) 0 (1 : Int)) 1 (1 : Int)) 2 (1 : Int) = [1, 1, 1] := rfl
        have h5 := F73_glue n g m 0 [1, 1, 1] s hq (by omega) m3 s1 s2
        obtain ⟨⟨f1, f2⟩, f3, f4⟩ := mkN_facts m 0 [1, 1, 1] s hq (by omega) s1 s2
        rw [inB_iff] at hg hn
        have h8 := F73_gaps g.toNat (mkN m [1, 1, 1] s).1 (mkN m [1, 1, 1] s).2 (by omega) (by omega) (by rw [pl_full f2, f1]; omega) f3 f4
        have hown := F106_eq (mkN m [1, 1, 1] s).1 (by omega)
        rw [show ((g.toNat : Nat) : Int) = g by omega] at h8
        simp only [Bool.not_true, Bool.false_eq_true, if_false, hset, h5, Option.bind_some] at h8 ⊢
        simp [h8, m1, F73_m, win_all, hown]


def F108_sh : FSh := ⟨[(.one (.sl (.int .i64) false false)), (.one (.sl (.int .i64) false false))], []⟩

def F108_L4_sh : LSh := ⟨(fun ex => match ex with | .norm => [(0, none), (1, none), (12, none), (13, none)] | .exit i => if i = 0 then [] else [] | .ret => [(4, none)]), [(0, (.one (.sl (.int .i64) false false))), (1, (.one (.sl (.int .i64) false false))), (12, (.one (.si .i64))), (13, (.one (.si .i64)))], [], [⟨.ret, [(4, (.one .sb))], []⟩, ⟨(.exit 0), [], []⟩], [], []⟩
noncomputable def F108_L4_step : (List (Int) × List (Int) × Int × Int) → T ((List (Int) × List (Int) × Int × Int) ⊕ (Bool ⊕ Unit)) := fun (a, b, t12, t13) =>
 (.test (decide (t13 < t12))
 (.test (decide ((0 ≤ t13) ∧ (t13 < ((List.length a) : Int))))
 (.sub (a[(Int.toNat t13)]?) fun z0 =>
 (.test (decide ((0 ≤ t13) ∧ (t13 < ((List.length b) : Int))))
 (.sub (b[(Int.toNat t13)]?) fun z1 =>
 (.test (z0 != z1)
 (.ret (Sum.inr (Sum.inl false)))
 (.ret (Sum.inl (a, (b, (t12, (w64 (t13 + 1)))))))))
 .fail))
 .fail)
 (.ret (Sum.inr (Sum.inr ()))))
noncomputable def F108_L4 (v : (List (Int) × List (Int) × Int × Int)) : Option (Bool ⊕ Unit) := loopO (fun v => (F108_L4_step v).run) v

def F108_fo : List FO := [⟨[(.one .sb)], []⟩]
noncomputable def F108_t : (List (Int) × List (Int)) → T Bool := fun (a, b) =>
 (.test (((List.length a) : Int) != ((List.length b) : Int))
 (.ret false)
 (.sub (F108_L4 (a, (b, (((List.length a) : Int), (0 : Int))))) fun z0 =>
 (.test (Sum.isLeft z0)
 (.sub (Sum.getLeft? z0) fun z1 =>
 (.ret z1))
 (.sub (Sum.getRight? z0) fun z2 =>
 (.ret true)))))
noncomputable def F108 (v : (List (Int) × List (Int))) : Option Bool := (F108_t v).run
noncomputable def F108_E : TEnv := E0
theorem F108_Eok : (F108_E).OK := E0ok
noncomputable def F108_told : Nat → Option SealT := fun id => if id = 4 then some (LSh.told F108_L4_sh 0 (F108_L4_step)) else none
theorem F108_L4_ok : ToldOK Tryz.prog 0 (loopAt (bodyOf fn_F108) [0]) (LSh.told F108_L4_sh 0 (F108_L4_step)) :=
  loop_ok (E := F108_E) (F108_Eok) (told := F108_told) (l := F108_L4_sh) (step := F108_L4_step) (loopsOK_of (ls := []) (by kernel_rfl) trivial) (by kernel_rfl) (fun v => by kernel_rfl)
theorem F108_ok : FOK Tryz.prog n_F108 F108_sh F108_fo F108 :=
  fn_ok (E := F108_E) (F108_Eok) (told := F108_told) (fl := []) (c := bodyOf fn_F108) (s := F108_sh) (l := F108_fo) (tree := F108_t) fnat_F108 (by kernel_rfl) (by kernel_rfl) (by kernel_rfl) (loopsOK_of (ls := [loopAt (bodyOf fn_F108) [0]]) (by kernel_rfl) ⟨.inr ⟨_, by kernel_rfl, F108_L4_ok⟩, trivial⟩) (fun v => by kernel_rfl)

theorem dSame_val (a b : List Int) (hl : a.length < 4611686018427387904) : F108 (a, b) = some (decide (a = b)) := by
  by_cases hab : a.length = b.length
  · have h := loop_any (step := fun v => (F108_L4_step v).run) (xs := a.zip b) (fun p => p.1 != p.2) (fun k => (a, b, (a.length : Int), (k : Int))) (.inl false) (.inr ())
      (fun k x hx => by
        have hk := getElem?_lt hx
        rw [List.length_zip, hab, Nat.min_self] at hk
        rw [List.getElem?_zip_eq_some] at hx
        simp only [F108_L4_step, T.run, Option.bind_some, Int.toNat_natCast, hx.1, hx.2]
        rw [w64_id (by omega) (by omega)]
        have hka : k < a.length := by omega
        cases x.1 != x.2 <;> simp [hk, hka])
      (by simp [F108_L4_step, T.run, hab])
    simp only [F108, F108_t, T.run, F108_L4]
    simp only [Int.natCast_zero] at h
    rw [h, hab]
    have e : (a.zip b).any (fun p => p.1 != p.2) = !decide (a = b) := zip_any_ne a b hab
    rw [e]
    cases decide (a = b) <;> simp
  · simp only [F108, F108_t, T.run]
    have : a ≠ b := fun e => hab (by rw [e])
    simp [this]
    omega
def F92_sh : FSh := ⟨[(.ag [(.sl (.int .i64) false false)]), (.ag [(.sl (.int .i64) false false)])], []⟩

def F92_fo : List FO := [⟨[(.one .sb)], []⟩]
noncomputable def F92_t : (List (Int) × List (Int)) → T Bool := fun (a_0, b_0) =>
 (.sub (F108 (a_0, b_0)) fun z0 =>
 (.ret z0))
noncomputable def F92 (v : (List (Int) × List (Int))) : Option Bool := (F92_t v).run
noncomputable def F92_E : TEnv := (E0.add1 n_F108 F108_sh F108_fo F108)
theorem F92_Eok : (F92_E).OK := (E0ok.add1 F108_ok)
noncomputable def F92_told : Nat → Option SealT := fun id => none
theorem F92_ok : FOK Tryz.prog n_F92 F92_sh F92_fo F92 :=
  fn_ok (E := F92_E) (F92_Eok) (told := F92_told) (fl := []) (c := bodyOf fn_F92) (s := F92_sh) (l := F92_fo) (tree := F92_t) fnat_F92 (by kernel_rfl) (by kernel_rfl) (by kernel_rfl) (loopsOK_of (ls := []) (by kernel_rfl) trivial) (fun v => by kernel_rfl)

theorem F92_val (a b : List Int) (hl : a.length < 4611686018427387904) : F92 (a, b) = some (decide (a = b)) := by
  rw [F92, F92_t, T.run_sub, dSame_val a b hl, Option.bind_some, T.run_ret]


def F74_sh : FSh := ⟨[(.one (.si .i64)), (.one (.pf 0 0 0))], [(.rcd 0 [(.si .i64)])]⟩

def F74_fo : List FO := [⟨[(.one .sb)], [(.rcd 0 [(.si .i64)])]⟩]
noncomputable def F74_t : ((Int × Unit) × Int) → T (Bool × Int) := fun ((k, ()), t1_0) =>
 (.sub (F98 (k, ((0 : Int), (w64 (t1_0 - 2))))) fun z0 =>
 (.ret ((! z0), t1_0)))
noncomputable def F74 (v : ((Int × Unit) × Int)) : Option (Bool × Int) := (F74_t v).run
noncomputable def F74_E : TEnv := (E0.add1 n_F98 F98_sh F98_fo F98)
theorem F74_Eok : (F74_E).OK := (E0ok.add1 F98_ok)
noncomputable def F74_told : Nat → Option SealT := fun id => none
theorem F74_ok : FOK Tryz.prog n_F74 F74_sh F74_fo F74 :=
  fn_ok (E := F74_E) (F74_Eok) (told := F74_told) (fl := []) (c := bodyOf fn_F74) (s := F74_sh) (l := F74_fo) (tree := F74_t) fnat_F74 (by kernel_rfl) (by kernel_rfl) (by kernel_rfl) (loopsOK_of (ls := []) (by kernel_rfl) trivial) (fun v => by kernel_rfl)

theorem F74_eq (k c : Int) (h : 0 ≤ c) (h2 : c < 4611686018427387904) : F74 ((k, ()), c) = some (!inB 0 (c - 2) k, c) := by
  simp only [F74, F74_t, T.run, F98_eq, Option.bind_some]
  rw [w64_id (by omega) (by omega)]


def F13_sh : FSh := ⟨[(.one (.sl (.int .i64) false false)), (.clo n_F74 [(.one (.pf 0 0 0))])], [(.rcd 0 [(.si .i64)])]⟩

def F13_L2_sh : LSh := ⟨(fun ex => match ex with | .norm => [(0, none), (1, none), (7, none), (8, none)] | .exit i => if i = 0 then [] else [] | .ret => [(4, none)]), [(0, (.one (.sl (.int .i64) false false))), (1, (.clo n_F74 [(.one (.pf 0 0 0))])), (7, (.one (.si .i64))), (8, (.one (.si .i64)))], [(.rcd 0 [(.si .i64)])], [⟨.ret, [(4, (.one (.si .i64)))], [(.rcd 0 [(.si .i64)])]⟩, ⟨(.exit 0), [], [(.rcd 0 [(.si .i64)])]⟩], [], []⟩
noncomputable def F13_L2_step : ((List (Int) × Unit × Int × Int) × Int) → T (((List (Int) × Unit × Int × Int) × Int) ⊕ ((Int × Int) ⊕ (Unit × Int))) := fun ((s, (), t7, t8), r0_0) =>
 (.test (decide (t8 < t7))
 (.test (decide ((0 ≤ t8) ∧ (t8 < ((List.length s) : Int))))
 (.sub (s[(Int.toNat t8)]?) fun z0 =>
 (.sub (F74 ((z0, ()), r0_0)) fun z1 =>
 (.test z1.1
 (.ret (Sum.inr (Sum.inl (t8, z1.2))))
 (.ret (Sum.inl ((s, ((), (t7, (w64 (t8 + 1))))), z1.2))))))
 .fail)
 (.ret (Sum.inr (Sum.inr ((), r0_0)))))
noncomputable def F13_L2 (v : ((List (Int) × Unit × Int × Int) × Int)) : Option ((Int × Int) ⊕ (Unit × Int)) := loopO (fun v => (F13_L2_step v).run) v

def F13_fo : List FO := [⟨[(.one (.si .i64))], [(.rcd 0 [(.si .i64)])]⟩]
noncomputable def F13_t : ((List (Int) × Unit) × Int) → T (Int × Int) := fun ((s, ()), r0_0) =>
 (.sub (F13_L2 ((s, ((), (((List.length s) : Int), (0 : Int)))), r0_0)) fun z0 =>
 (.test (Sum.isLeft z0)
 (.sub (Sum.getLeft? z0) fun z1 =>
 (.ret (z1.1, z1.2)))
 (.sub (Sum.getRight? z0) fun z2 =>
 (.ret ((-1), z2.2)))))
noncomputable def F13 (v : ((List (Int) × Unit) × Int)) : Option (Int × Int) := (F13_t v).run
noncomputable def F13_E : TEnv := (E0.add1 n_F74 F74_sh F74_fo F74)
theorem F13_Eok : (F13_E).OK := (E0ok.add1 F74_ok)
noncomputable def F13_told : Nat → Option SealT := fun id => if id = 2 then some (LSh.told F13_L2_sh 1 (F13_L2_step)) else none
theorem F13_L2_ok : ToldOK Tryz.prog 1 (loopAt (bodyOf fn_F28) [0]) (LSh.told F13_L2_sh 1 (F13_L2_step)) :=
  loop_ok (E := F13_E) (F13_Eok) (told := F13_told) (l := F13_L2_sh) (step := F13_L2_step) (loopsOK_of (ls := []) (by kernel_rfl) trivial) (by kernel_rfl) (fun v => by kernel_rfl)
theorem F13_ok : FOK Tryz.prog n_F28 F13_sh F13_fo F13 :=
  fn_ok (E := F13_E) (F13_Eok) (told := F13_told) (fl := []) (c := bodyOf fn_F28) (s := F13_sh) (l := F13_fo) (tree := F13_t) fnat_F28 (by kernel_rfl) (by kernel_rfl) (by kernel_rfl) (loopsOK_of (ls := [loopAt (bodyOf fn_F28) [0]]) (by kernel_rfl) ⟨.inr ⟨_, by kernel_rfl, F13_L2_ok⟩, trivial⟩) (fun v => by kernel_rfl)

theorem F13_eq (l : List Int) (c : Int) (hl : l.length < 4611686018427387904) (h : 0 ≤ c) (h2 : c < 4611686018427387904) : F13 ((l, ()), c) = some (idxI (fun k => !inB 0 (c - 2) k) l, c) := by
  have h := loop_find (step := fun v => (F13_L2_step v).run) (xs := l) (fun k => !inB 0 (c - 2) k) (fun k => ((l, (), (l.length : Int), (k : Int)), c)) (fun k => .inl ((k : Int), c)) (.inr ((), c))
    (fun k x hx => by
      have hk := getElem?_lt hx
      simp only [F13_L2_step, T.run, F74_eq _ _ h h2, Option.bind_some, Int.toNat_natCast, hx]
      rw [w64_id (by omega) (by omega)]
      cases inB 0 (c - 2) x <;> simp [hk])
    (by simp [F13_L2_step, T.run])
  simp only [F13, F13_t, T.run, F13_L2]
  simp only [Int.natCast_zero] at h
  rw [h, idxI]
  cases l.findIdx? (fun k => !inB 0 (c - 2) k) <;> simp


def F11_sh : FSh := ⟨[(.one (.sl (.int .i64) false false)), (.clo n_F74 [(.one (.pf 0 0 0))])], [(.rcd 0 [(.si .i64)])]⟩

def F11_fo : List FO := [⟨[(.one .sb)], [(.rcd 0 [(.si .i64)])]⟩]
noncomputable def F11_t : ((List (Int) × Unit) × Int) → T (Bool × Int) := fun ((s, ()), r0_0) =>
 (.sub (F13 ((s, ()), r0_0)) fun z0 =>
 (.ret ((decide (z0.1 ≥ 0)), z0.2)))
noncomputable def F11 (v : ((List (Int) × Unit) × Int)) : Option (Bool × Int) := (F11_t v).run
noncomputable def F11_E : TEnv := (E0.add1 n_F28 F13_sh F13_fo F13)
theorem F11_Eok : (F11_E).OK := (E0ok.add1 F13_ok)
noncomputable def F11_told : Nat → Option SealT := fun id => none
theorem F11_ok : FOK Tryz.prog n_F19 F11_sh F11_fo F11 :=
  fn_ok (E := F11_E) (F11_Eok) (told := F11_told) (fl := []) (c := bodyOf fn_F19) (s := F11_sh) (l := F11_fo) (tree := F11_t) fnat_F19 (by kernel_rfl) (by kernel_rfl) (by kernel_rfl) (loopsOK_of (ls := []) (by kernel_rfl) trivial) (fun v => by kernel_rfl)

theorem F11_eq (l : List Int) (c : Int) (hl : l.length < 4611686018427387904) (h : 0 ≤ c) (h2 : c < 4611686018427387904) : F11 ((l, ()), c) = some (l.any (fun k => !inB 0 (c - 2) k), c) := by
  simp only [F11, F11_t, T.run, F13_eq _ _ hl h h2, Option.bind_some, idxI_ge]


def F87_sh : FSh := ⟨[(.ag [(.sl (.int .i64) false false)])], []⟩

def F87_fo : List FO := [⟨[(.one .sb)], []⟩]
noncomputable def F87_t : List (Int) → T Bool := fun p_0 =>
 (.sub (F98 (((List.length p_0) : Int), ((3 : Int), (9 : Int)))) fun z0 =>
 (.test z0
 (.sub (F11 ((p_0, ()), ((List.length p_0) : Int))) fun z1 =>
 (.ret (! z1.1)))
 (.ret false)))
noncomputable def F87 (v : List (Int)) : Option Bool := (F87_t v).run
noncomputable def F87_E : TEnv := ((E0.add1 n_F98 F98_sh F98_fo F98).add1 n_F19 F11_sh F11_fo F11)
theorem F87_Eok : (F87_E).OK := ((E0ok.add1 F98_ok).add1 F11_ok)
noncomputable def F87_told : Nat → Option SealT := fun id => none
theorem F87_ok : FOK Tryz.prog n_F87 F87_sh F87_fo F87 :=
  fn_ok (E := F87_E) (F87_Eok) (told := F87_told) (fl := []) (c := bodyOf fn_F87) (s := F87_sh) (l := F87_fo) (tree := F87_t) fnat_F87 (by kernel_rfl) (by kernel_rfl) (by kernel_rfl) (loopsOK_of (ls := []) (by kernel_rfl) trivial) (fun v => by kernel_rfl)

theorem F87_eq (l : List Int) (hl : l.length < 4611686018427387904) : F87 l = some (isPz l) := by
  simp only [F87, F87_t, T.run, F98_eq, Option.bind_some, F11_eq l l.length hl (by omega) (by omega), all_any, isPz]
  cases inB 3 9 l.length <;> simp


def F80_sh : FSh := ⟨[(.ag [(.sl (.int .i64) false false)])], []⟩

def F80_L5_sh : LSh := ⟨(fun ex => match ex with | .norm => [(4, none), (11, none), (12, none), (13, none)] | .exit i => if i = 0 then [(4, none)] else [] | .ret => [(2, none), (3, none)]), [(4, (.one (.si .i64))), (11, (.one (.sl (.int .i64) false false))), (12, (.one (.si .i64))), (13, (.one (.si .i64)))], [], [⟨(.exit 0), [(4, (.one (.si .i64)))], []⟩], [], []⟩
noncomputable def F80_L5_step : (Int × List (Int) × Int × Int) → T ((Int × List (Int) × Int × Int) ⊕ Int) := fun (count, t11, t12, t13) =>
 (.test (decide (t13 < t12))
 (.test (decide ((0 ≤ t13) ∧ (t13 < ((List.length t11) : Int))))
 (.sub (t11[(Int.toNat t13)]?) fun z0 =>
 (.test (z0 == 0)
 (.ret (Sum.inl ((w64 (count + 1)), (t11, (t12, (w64 (t13 + 1)))))))
 (.ret (Sum.inl (count, (t11, (t12, (w64 (t13 + 1)))))))))
 .fail)
 (.ret (Sum.inr count)))
noncomputable def F80_L5 (v : (Int × List (Int) × Int × Int)) : Option Int := loopO (fun v => (F80_L5_step v).run) v

def F80_fo : List FO := [⟨[(.one (.si .i64)), (.one .sb)], []⟩]
noncomputable def F80_t : List (Int) → T (Int × Bool) := fun p_0 =>
 (.sub (F87 p_0) fun z0 =>
 (.test (! z0)
 (.ret ((0 : Int), false))
 (.sub (F80_L5 ((0 : Int), (p_0, (((List.length p_0) : Int), (0 : Int))))) fun z1 =>
 (.ret (z1, true)))))
noncomputable def F80 (v : List (Int)) : Option (Int × Bool) := (F80_t v).run
noncomputable def F80_E : TEnv := (E0.add1 n_F87 F87_sh F87_fo F87)
theorem F80_Eok : (F80_E).OK := (E0ok.add1 F87_ok)
noncomputable def F80_told : Nat → Option SealT := fun id => if id = 5 then some (LSh.told F80_L5_sh 0 (F80_L5_step)) else none
theorem F80_L5_ok : ToldOK Tryz.prog 0 (loopAt (bodyOf fn_F80) [0]) (LSh.told F80_L5_sh 0 (F80_L5_step)) :=
  loop_ok (E := F80_E) (F80_Eok) (told := F80_told) (l := F80_L5_sh) (step := F80_L5_step) (loopsOK_of (ls := []) (by kernel_rfl) trivial) (by kernel_rfl) (fun v => by kernel_rfl)
theorem F80_ok : FOK Tryz.prog n_F80 F80_sh F80_fo F80 :=
  fn_ok (E := F80_E) (F80_Eok) (told := F80_told) (fl := []) (c := bodyOf fn_F80) (s := F80_sh) (l := F80_fo) (tree := F80_t) fnat_F80 (by kernel_rfl) (by kernel_rfl) (by kernel_rfl) (loopsOK_of (ls := [loopAt (bodyOf fn_F80) [0]]) (by kernel_rfl) ⟨.inr ⟨_, by kernel_rfl, F80_L5_ok⟩, trivial⟩) (fun v => by kernel_rfl)

theorem F80_L5_eq (l : List Int) (hl : l.length < 4611686018427387904) : F80_L5 (0, l, (l.length : Int), 0) = some (gaps l) := by
  have h := loop_fold (step := fun v => (F80_L5_step v).run) (xs := l) (fun (k : Nat) (s : Int) => 0 ≤ s ∧ s ≤ k) (fun k s => (s, l, (l.length : Int), (k : Int))) (fun c x => if x == 0 then c + 1 else c) (fun s => s)
    (fun k s x hP hx => by
      have hk := getElem?_lt hx
      simp only [F80_L5_step, T.run, Option.bind_some, Int.toNat_natCast, hx]
      rw [w64_id (by omega) (by omega), w64_id (by omega) (by omega)]
      cases x == 0 <;> simp [hk] <;> omega)
    (fun s hP => by simp [F80_L5_step, T.run]) 0 (by omega)
  simp only [F80_L5]
  simp only [Int.natCast_zero] at h
  rw [h.1, gaps_fold]
  simp
theorem F80_eq (l : List Int) (hl : l.length < 4611686018427387904) : F80 l = some (if isPz l then gaps l else 0, isPz l) := by
  simp only [F80, F80_t, T.run, F87_eq l hl, Option.bind_some, F80_L5_eq l hl]
  cases isPz l <;> simp



def ltL : List Int → List Int → Bool
  | [], [] => false
  | [], _ :: _ => true
  | _ :: _, [] => false
  | x :: a, y :: b => if x < y then true else if y < x then false else ltL a b
def leL (a b : List Int) : Bool := !ltL b a
theorem ltL_irr : ∀ a : List Int, ltL a a = false
  | [] => rfl
  | x :: a => by simp [ltL, ltL_irr a]
theorem ltL_trans : ∀ {a b c : List Int}, ltL a b = true → ltL b c = true → ltL a c = true
  | [], [], c, h, _ => by simp [ltL] at h
  | [], y :: b, [], _, h => by simp [ltL] at h
  | [], y :: b, z :: c, _, _ => rfl
  | x :: a, [], c, h, _ => by simp [ltL] at h
  | x :: a, y :: b, [], _, h => by simp [ltL] at h
  | x :: a, y :: b, z :: c, h1, h2 => by
    unfold ltL at h1 h2 ⊢
    by_cases g1 : x < y
    · by_cases g2 : y < z
      · rw [if_pos (by omega)]
      · rw [if_neg g2] at h2
        by_cases g3 : z < y
        · rw [if_pos g3] at h2; cases h2
        · rw [if_pos (by omega)]
    · rw [if_neg g1] at h1
      by_cases g4 : y < x
      · rw [if_pos g4] at h1; cases h1
      · rw [if_neg g4] at h1
        have e : x = y := by omega
        subst e
        by_cases g2 : x < z
        · rw [if_pos g2]
        · rw [if_neg g2] at h2 ⊢
          by_cases g3 : z < x
          · rw [if_pos g3] at h2; cases h2
          · rw [if_neg g3] at h2 ⊢
            exact ltL_trans h1 h2
theorem ltL_tot : ∀ {a b : List Int}, ltL a b = false → ltL b a = false → a = b
  | [], [], _, _ => rfl
  | [], y :: b, h, _ => by simp [ltL] at h
  | x :: a, [], _, h => by simp [ltL] at h
  | x :: a, y :: b, h1, h2 => by
    unfold ltL at h1 h2
    by_cases g1 : x < y
    · rw [if_pos g1] at h1; cases h1
    · rw [if_neg g1] at h1
      by_cases g2 : y < x
      · rw [if_pos g2] at h2; cases h2
      · rw [if_neg g2] at h1 h2
        rw [if_neg g1] at h2
        rw [show x = y by omega, ltL_tot h1 h2]
theorem leL_tot (a b : List Int) : (leL a b || leL b a) = true := by
  unfold leL
  cases h1 : ltL b a with
  | false => rfl
  | true =>
    cases h2 : ltL a b with
    | false => rfl
    | true =>
      have := ltL_trans h1 h2
      rw [ltL_irr] at this
      cases this
theorem leL_trans {a b c : List Int} (h1 : leL a b = true) (h2 : leL b c = true) : leL a c = true := by
  unfold leL at h1 h2 ⊢
  simp only [Bool.not_eq_true'] at h1 h2 ⊢
  cases h : ltL c a with
  | false => rfl
  | true =>
    exfalso
    cases h3 : ltL a b with
    | true => have := ltL_trans h h3; rw [this] at h2; cases h2
    | false =>
      have := ltL_tot h3 h1
      subst this
      rw [h] at h2; cases h2
def sortL (l : List (List Int)) : List (List Int) := l.mergeSort leL
theorem sortL_perm (l : List (List Int)) : (sortL l).Perm l := List.mergeSort_perm l leL
theorem sortL_up (l : List (List Int)) : (sortL l).Pairwise fun a b => leL a b = true := List.pairwise_mergeSort (le := leL) (fun _ _ _ => leL_trans) leL_tot l
theorem sortL_unique {l m : List (List Int)} (h : m.Pairwise fun a b => leL a b = true) (hp : m.Perm l) : m = sortL l :=
  List.Perm.eq_of_pairwise (fun a b _ _ h1 h2 => ltL_tot (by simpa [leL] using h2) (by simpa [leL] using h1)) h (sortL_up l) (hp.trans (sortL_perm l).symm)
def gL (l : List (List Int)) (p : Nat) : List Int := l.getD p []
theorem gL_eq {l : List (List Int)} {p : Nat} (h : p < l.length) : gL l p = l[p] := by unfold gL; rw [List.getD_eq_getElem?_getD, List.getElem?_eq_getElem h]; rfl
theorem gL_some {l : List (List Int)} {p : Nat} (h : p < l.length) : l[p]? = some (gL l p) := by rw [gL_eq h, List.getElem?_eq_getElem h]
def placeL (q : List Int) (out : List (List Int)) : Nat → Nat
  | 0 => 0
  | k + 1 => if ltL q (gL out k) then placeL q out k else k + 1
theorem placeL_spec (q : List Int) (out : List (List Int)) : ∀ k, placeL q out k ≤ k ∧ (∀ p, placeL q out k ≤ p → p < k → ltL q (gL out p) = true) ∧ (0 < placeL q out k → ltL q (gL out (placeL q out k - 1)) = false)
  | 0 => ⟨Nat.le_refl _, fun p h1 h2 => by omega, fun h => by simp [placeL] at h⟩
  | k + 1 => by
    unfold placeL
    cases hq : ltL q (gL out k) with
    | true =>
      obtain ⟨h1, h2, h3⟩ := placeL_spec q out k
      simp only [if_true]
      refine ⟨by omega, fun p g1 g2 => ?_, h3⟩
      by_cases e : p = k
      · subst e; exact hq
      · exact h2 p g1 (by omega)
    | false =>
      simp only [Bool.false_eq_true, if_false]
      refine ⟨Nat.le_refl _, fun p h1 h2 => by omega, fun _ => ?_⟩
      simpa using hq
def insL (out : List (List Int)) (q : List Int) : List (List Int) := out.take (placeL q out out.length) ++ q :: out.drop (placeL q out out.length)
theorem insL_perm (out : List (List Int)) (q : List Int) : (insL out q).Perm (q :: out) := by
  unfold insL
  have h := List.perm_middle (a := q) (l₁ := out.take (placeL q out out.length)) (l₂ := out.drop (placeL q out out.length))
  rwa [List.take_append_drop] at h
theorem insL_up {out : List (List Int)} (q : List Int) (h : out.Pairwise fun a b => leL a b = true) : (insL out q).Pairwise fun a b => leL a b = true := by
  obtain ⟨h1, h2, h3⟩ := placeL_spec q out out.length
  unfold insL
  generalize placeL q out out.length = k at *
  have hg := List.pairwise_iff_getElem.1 h
  rw [List.pairwise_append]
  refine ⟨h.sublist (List.take_sublist ..), ?_, fun a ha b hb => ?_⟩
  · rw [List.pairwise_cons]
    refine ⟨fun b hb => ?_, h.sublist (List.drop_sublist ..)⟩
    obtain ⟨p, hp, e⟩ := List.mem_drop_iff_getElem.1 hb
    have := h2 (k + p) (by omega) (by omega)
    rw [gL_eq (by omega), e] at this
    unfold leL
    cases hc : ltL b q with
    | false => rfl
    | true => have := ltL_trans this hc; rw [ltL_irr] at this; cases this
  · obtain ⟨i, hi, ei⟩ := List.mem_take_iff_getElem.1 ha
    have hk : 0 < k := by omega
    have hq : leL (gL out (k - 1)) q = true := by unfold leL; rw [h3 hk]; rfl
    have hiq : leL a q = true := by
      by_cases e : i = k - 1
      · subst e; rw [gL_eq (by omega), ei] at hq; exact hq
      · have := hg i (k - 1) (by omega) (by omega) (by omega)
        rw [ei, ← gL_eq (show k - 1 < out.length by omega)] at this
        exact leL_trans this hq
    rcases List.mem_cons.1 hb with rfl | hb
    · exact hiq
    · obtain ⟨p, hp, e⟩ := List.mem_drop_iff_getElem.1 hb
      have := hg i (k + p) (by omega) (by omega) (by omega)
      rwa [ei, e] at this
theorem insL_all : ∀ (l out : List (List Int)), (out.Pairwise fun a b => leL a b = true) → ((l.foldl insL out).Pairwise fun a b => leL a b = true) ∧ (l.foldl insL out).Perm (out ++ l)
  | [], out, h => ⟨h, by simp⟩
  | q :: l, out, h => by
    obtain ⟨h1, h2⟩ := insL_all l (insL out q) (insL_up q h)
    refine ⟨h1, h2.trans ?_⟩
    exact ((insL_perm out q).append_right l).trans (by simpa using (List.perm_middle (a := q) (l₁ := out) (l₂ := l)).symm)
theorem insL_sortL (l : List (List Int)) : l.foldl insL [] = sortL l := by
  obtain ⟨h1, h2⟩ := insL_all l [] (by simp)
  exact sortL_unique h1 (by rwa [List.nil_append] at h2)


end Go.Proofs.W
