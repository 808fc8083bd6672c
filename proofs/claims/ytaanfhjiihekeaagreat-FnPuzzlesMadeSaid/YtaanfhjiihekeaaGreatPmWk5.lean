/- Functions of the program, walked, and what they compute. -/
import Derived.Test.YtaanfhjiihekeaaGreatPmWk4
set_option linter.unusedVariables false
set_option linter.unusedSimpArgs false
set_option maxRecDepth 100000
set_option maxHeartbeats 4000000
namespace Go.Proofs.W
open Go Go.Gm Go.Proofs
open Go.RowKit Go.Shelf
def F55_sh : FSh := ⟨[(.one (.pf 0 0 0))], [(.rcd 0 [(.sl (.int .u8) false true), (.si .i64), (.si .u64)])]⟩

def F55_fo : List FO := [⟨[(.ag [(.rw 1 0)])], [(.rcd 0 [(.sl (.int .u8) false true), (.si .i64), (.si .u64)]), (.row 0 (.int .i64))]⟩]
noncomputable def F55_t : (Unit × (List (Int) × Int × Int)) → T (Unit × ((List (Int) × Int × Int) × List (Int))) := fun ((), (c_0, c_1, c_2)) =>
 (.sub (F68 (((), (5 : Int)), (c_0, (c_1, c_2)))) fun z0 =>
 (.sub (F68 (((), (w64 ((w64 (3 + z0.1)) + 1))), (z0.2.1, (z0.2.2.1, z0.2.2.2)))) fun z1 =>
 (.sub (F68 (((), (10000 : Int)), (z1.2.1, (z1.2.2.1, z1.2.2.2)))) fun z2 =>
 (.sub (F73 ((w64 (3 + z0.1)), (z1.1, z2.1))) fun z3 =>
 (.sub (F68 (((), (14 : Int)), (z2.2.1, (z2.2.2.1, z2.2.2.2)))) fun z4 =>
 (.test (z4.1 == 0)
 (.sub (F68 (((), (w64 (3 + z0.1))), (z4.2.1, (z4.2.2.1, z4.2.2.2)))) fun z5 =>
 (.test (decide (5 ≤ (List.length (List.set (List.set (List.set (List.set (List.set (List.replicate 5 (0 : Int)) 0 (-1)) 1 (w64 ((w64 (3 + z0.1)) - 1))) 2 (0 : Int)) 3 (1 : Int)) 4 (4611686018427387904 : Int)))))
 (.sub (F60 (((), (win (List.set (List.set (List.set (List.set (List.set (List.replicate 5 (0 : Int)) 0 (-1)) 1 (w64 ((w64 (3 + z0.1)) - 1))) 2 (0 : Int)) 3 (1 : Int)) 4 (4611686018427387904 : Int)) 0 5)), (z5.2.1, (z5.2.2.1, z5.2.2.2)))) fun z6 =>
 (.test (decide ((0 ≤ z5.1) ∧ (z5.1 < ((List.length z3.2) : Int))))
 (.sub (z3.2[(0 + (Int.toNat z5.1))]?) fun z7 =>
 (.test (decide ((0 = 0) ∧ ((List.length z3.2) = (List.length (List.set z3.2 (0 + (Int.toNat z5.1)) z6.1)))))
 (.ret ((), ((z6.2.1, (z6.2.2.1, z6.2.2.2)), (List.set z3.2 (0 + (Int.toNat z5.1)) z6.1))))
 .fail))
 .fail))
 .fail))
 (.test (z4.1 == 1)
 (.sub (F68 (((), (w64 (3 + z0.1))), (z4.2.1, (z4.2.2.1, z4.2.2.2)))) fun z8 =>
 (.sub (F68 (((), (w64 ((w64 (3 + z0.1)) - 2))), (z8.2.1, (z8.2.2.1, z8.2.2.2)))) fun z9 =>
 (.test (decide ((0 ≤ z8.1) ∧ (z8.1 < ((List.length z3.2) : Int))))
 (.sub (z3.2[(0 + (Int.toNat z8.1))]?) fun z10 =>
 (.test (decide ((0 = 0) ∧ ((List.length z3.2) = (List.length (List.set z3.2 (0 + (Int.toNat z8.1)) (w64 (1 + z9.1)))))))
 (.ret ((), ((z9.2.1, (z9.2.2.1, z9.2.2.2)), (List.set z3.2 (0 + (Int.toNat z8.1)) (w64 (1 + z9.1))))))
 .fail))
 .fail)))
 (.test (z4.1 == 2)
 (.test (decide ((0 = 0) ∧ (2 = (List.length (List.set (List.set (List.replicate 2 (0 : Int)) 0 (1 : Int)) 1 (1 : Int))))))
 (.ret ((), ((z4.2.1, (z4.2.2.1, z4.2.2.2)), (List.set (List.set (List.replicate 2 (0 : Int)) 0 (1 : Int)) 1 (1 : Int)))))
 .fail)
 (.test (decide ((0 = 0) ∧ ((List.length z3.2) = (List.length z3.2))))
 (.ret ((), ((z4.2.1, (z4.2.2.1, z4.2.2.2)), z3.2)))
 .fail)))))))))
noncomputable def F55 (v : (Unit × (List (Int) × Int × Int))) : Option (Unit × ((List (Int) × Int × Int) × List (Int))) := (F55_t v).run
noncomputable def F55_E : TEnv := (((E0.add1 n_F68 F68_sh F68_fo F68).add1 n_F73 F73_sh F73_fo F73).add1 n_F60 F60_sh F60_fo F60)
theorem F55_Eok : (F55_E).OK := (((E0ok.add1 F68_ok).add1 F73_ok).add1 F60_ok)
noncomputable def F55_told : Nat → Option SealT := fun id => none
theorem F55_ok : FOK Tryz.prog n_F55 F55_sh F55_fo F55 :=
  fn_ok (E := F55_E) (F55_Eok) (told := F55_told) (fl := []) (c := bodyOf fn_F55) (s := F55_sh) (l := F55_fo) (tree := F55_t) fnat_F55 (by kernel_rfl) (by kernel_rfl) (by kernel_rfl) (loopsOK_of (ls := []) (by kernel_rfl) trivial) (fun v => by kernel_rfl)

def F34_sh : FSh := ⟨[(.one (.sl (.int .u8) false true))], []⟩

def F34_fo : List FO := [⟨[(.ag [(.rw 0 0)])], [(.row 0 (.int .i64))]⟩]
noncomputable def F34_t : List (Int) → T (Unit × List (Int)) := fun code =>
 (.sub (F82 (((), (8 : Int)), (code, ((0 : Int), (0 : Int))))) fun z0 =>
 (.test z0.1
 (.sub (F55 ((), (z0.2.1, (z0.2.2.1, z0.2.2.2)))) fun z1 =>
 (.test (decide ((0 = 0) ∧ ((List.length z1.2.2) = (List.length z1.2.2))))
 (.ret ((), z1.2.2))
 .fail))
 (.sub (F68 (((), (4 : Int)), (z0.2.1, (z0.2.2.1, z0.2.2.2)))) fun z2 =>
 (.sub (F68 (((), (3 : Int)), (z2.2.1, (z2.2.2.1, z2.2.2.2)))) fun z3 =>
 (.sub (F68 (((), (10000 : Int)), (z3.2.1, (z3.2.2.1, z3.2.2.2)))) fun z4 =>
 (.sub (F73 ((w64 (4 + z2.1)), (z3.1, z4.1))) fun z5 =>
 (.test (decide ((0 = 0) ∧ ((List.length z5.2) = (List.length z5.2))))
 (.ret ((), z5.2))
 .fail)))))))
noncomputable def F34 (v : List (Int)) : Option (Unit × List (Int)) := (F34_t v).run
noncomputable def F34_E : TEnv := ((((E0.add1 n_F82 F82_sh F82_fo F82).add1 n_F55 F55_sh F55_fo F55).add1 n_F68 F68_sh F68_fo F68).add1 n_F73 F73_sh F73_fo F73)
theorem F34_Eok : (F34_E).OK := ((((E0ok.add1 F82_ok).add1 F55_ok).add1 F68_ok).add1 F73_ok)
noncomputable def F34_told : Nat → Option SealT := fun id => none
theorem F34_ok : FOK Tryz.prog n_F34 F34_sh F34_fo F34 :=
  fn_ok (E := F34_E) (F34_Eok) (told := F34_told) (fl := []) (c := bodyOf fn_F34) (s := F34_sh) (l := F34_fo) (tree := F34_t) fnat_F34 (by kernel_rfl) (by kernel_rfl) (by kernel_rfl) (loopsOK_of (ls := []) (by kernel_rfl) trivial) (fun v => by kernel_rfl)

def F64_sh : FSh := ⟨[(.ag [(.sl (.int .i64) false false)]), (.one (.si .i64)), (.one (.si .i64))], []⟩

def F64_fo : List FO := [⟨[(.ag [(.rw 0 0)])], [(.row 0 (.int .i64))]⟩]
noncomputable def F64_t : (List (Int) × Int × Int) → T (Unit × List (Int)) := fun (p_0, at', number) =>
 (.sub (F43 p_0) fun z0 =>
 (.test (decide ((0 ≤ at') ∧ (at' < ((List.length z0.2) : Int))))
 (.sub (z0.2[(0 + (Int.toNat at'))]?) fun z1 =>
 (.test (decide ((0 = 0) ∧ ((List.length z0.2) = (List.length (List.set z0.2 (0 + (Int.toNat at')) number)))))
 (.ret ((), (List.set z0.2 (0 + (Int.toNat at')) number)))
 .fail))
 .fail))
noncomputable def F64 (v : (List (Int) × Int × Int)) : Option (Unit × List (Int)) := (F64_t v).run
noncomputable def F64_E : TEnv := (E0.add1 n_F43 F43_sh F43_fo F43)
theorem F64_Eok : (F64_E).OK := (E0ok.add1 F43_ok)
noncomputable def F64_told : Nat → Option SealT := fun id => none
theorem F64_ok : FOK Tryz.prog n_F64 F64_sh F64_fo F64 :=
  fn_ok (E := F64_E) (F64_Eok) (told := F64_told) (fl := []) (c := bodyOf fn_F64) (s := F64_sh) (l := F64_fo) (tree := F64_t) fnat_F64 (by kernel_rfl) (by kernel_rfl) (by kernel_rfl) (loopsOK_of (ls := []) (by kernel_rfl) trivial) (fun v => by kernel_rfl)

theorem F64_eq (l : List Int) (at' n : Int) (hl : l.length < 1000000000000) (h1 : 0 ≤ at') (h2 : at' < l.length) : F64 (l, at', n) = some ((), l.set at'.toNat n) := by
  have h3 : at'.toNat < l.length := by omega
  have hc : F43 l = some ((), l) := by
    unfold F43
    rw [if_pos]
    exact ⟨by unfold maxLen; omega, by omega⟩
  simp [F64, F64_t, T.run, hc, h1, h2, h3]



def hardS (o : List Int) (k : Nat) : List Int := if (solL (o.set k 0)).length = 1 then o.set k 0 else o
def hardR (p : List Int) : Bool × List Int := if isPz p && (solL p).length == 1 then (true, (List.range p.length).foldl hardS p) else (false, [])
theorem isPz_set {p : List Int} (h : isPz p = true) (k : Nat) : isPz (p.set k 0) = true := by
  have hl := isPz_len h
  unfold isPz at h ⊢
  rw [Bool.and_eq_true] at h ⊢
  rw [List.length_set]
  refine ⟨h.1, List.all_eq_true.2 fun x hx => ?_⟩
  rcases List.mem_or_eq_of_mem_set hx with hx | rfl
  · exact List.all_eq_true.1 h.2 x hx
  · rw [inB_iff]; omega
theorem hardS_len (o : List Int) (k : Nat) : (hardS o k).length = o.length := by unfold hardS; split <;> simp
theorem hard_foldl_len : ∀ (l : List Nat) (o : List Int), (l.foldl hardS o).length = o.length
  | [], o => rfl
  | k :: l, o => by rw [List.foldl_cons, hard_foldl_len l, hardS_len]
theorem hardS_pz {o : List Int} (h : isPz o = true) (k : Nat) : isPz (hardS o k) = true := by
  unfold hardS
  split
  · exact isPz_set h k
  · exact h
theorem hardS_one {o : List Int} (h : (solL o).length = 1) (k : Nat) : (solL (hardS o k)).length = 1 := by
  unfold hardS
  split
  · assumption
  · exact h
theorem hardS_other (o : List Int) {k j : Nat} (h : k < j) : (hardS o k).getD j 0 = o.getD j 0 := by
  unfold hardS
  split
  · rw [List.getD_eq_getElem?_getD, List.getD_eq_getElem?_getD, List.getElem?_set_ne (by omega)]
  · rfl
theorem set_zero_self {o : List Int} {k : Nat} (h : o.getD k 0 = 0) : o.set k 0 = o := by
  apply List.ext_getElem?
  intro j
  rw [List.getElem?_set]
  split
  · rename_i e
    subst e
    rw [List.getD_eq_getElem?_getD] at h
    split
    · rename_i hk
      rw [List.getElem?_eq_getElem hk] at h ⊢
      simp only [Option.getD_some] at h
      rw [h]
    · rename_i hk
      rw [List.getElem?_eq_none (by omega)]
  · rfl
theorem hardS_gap {o : List Int} {k : Nat} (h : o.getD k 0 = 0) : hardS o k = o := by
  unfold hardS
  rw [set_zero_self h, ite_self]


def F56_sh : FSh := ⟨[(.ag [(.sl (.int .i64) false false)])], []⟩

def F56_L5_sh : LSh := ⟨(fun ex => match ex with | .norm => [(2, none), (4, none), (23, none), (24, none)] | .exit i => if i = 0 then [(2, none), (4, none)] else [] | .ret => [(2, none), (3, none)]), [(2, (.one (.pf 0 0 0))), (4, (.one (.pf 1 0 0))), (23, (.one (.si .i64))), (24, (.one (.si .i64)))], [(.rcd 0 [(.nl true true)]), (.rcd 0 [(.rw 2 0)]), (.row 0 (.int .i64))], [⟨(.exit 0), [(2, (.one (.pf 0 0 0))), (4, (.one (.pf 1 0 0)))], [(.rcd 0 [(.nl true true)]), (.rcd 0 [(.rw 2 0)]), (.row 0 (.int .i64))]⟩], [], []⟩
noncomputable def F56_L5_step : ((Unit × Unit × Int × Int) × (Unit × Unit × List (Int))) → T (((Unit × Unit × Int × Int) × (Unit × Unit × List (Int))) ⊕ ((Unit × Unit) × (Unit × Unit × List (Int)))) := fun (((), (), t23, t24), ((), (), out_r)) =>
 (.test (decide (t24 < t23))
 (.test (decide ((0 + (List.length out_r)) ≤ (List.length out_r)))
 (.sub (F64 ((win out_r 0 (List.length out_r)), (t24, (0 : Int)))) fun z0 =>
 (.test (decide ((0 + (List.length z0.2)) ≤ (List.length z0.2)))
 (.sub (F33 (win z0.2 0 (List.length z0.2))) fun z1 =>
 (.test (((List.length z1.2) : Int) == 1)
 (.test (decide ((0 = 0) ∧ ((List.length z0.2) = (List.length z0.2))))
 (.ret (Sum.inl (((), ((), (t23, (w64 (t24 + 1))))), ((), ((), z0.2)))))
 .fail)
 (.test (decide ((0 = 0) ∧ ((List.length out_r) = (List.length out_r))))
 (.ret (Sum.inl (((), ((), (t23, (w64 (t24 + 1))))), ((), ((), out_r)))))
 .fail)))
 .fail))
 .fail)
 (.test (decide ((0 = 0) ∧ ((List.length out_r) = (List.length out_r))))
 (.ret (Sum.inr (((), ()), ((), ((), out_r)))))
 .fail))
noncomputable def F56_L5 (v : ((Unit × Unit × Int × Int) × (Unit × Unit × List (Int)))) : Option ((Unit × Unit) × (Unit × Unit × List (Int))) := loopO (fun v => (F56_L5_step v).run) v

def F56_w_fo : List FO := [⟨[(.ag [(.nl true true)]), (.one .sb)], []⟩, ⟨[(.ag [(.rw 0 0)]), (.one .sb)], [(.row 0 (.int .i64))]⟩]
noncomputable def F56_t : List (Int) → T ((Unit × Bool) ⊕ ((Unit × Bool) × List (Int))) := fun p_0 =>
 (.sub (F87 p_0) fun z0 =>
 (.test (! z0)
 (.ret (Sum.inl ((), false)))
 (.sub (F33 p_0) fun z1 =>
 (.test (((List.length z1.2) : Int) != 1)
 (.ret (Sum.inl ((), false)))
 (.sub (F43 p_0) fun z2 =>
 (.test (decide ((0 = 0) ∧ ((List.length z2.2) = (List.length z2.2))))
 (.sub (F56_L5 (((), ((), (((List.length z2.2) : Int), (0 : Int)))), ((), ((), z2.2)))) fun z3 =>
 (.test (decide ((0 = 0) ∧ ((List.length z3.2.2.2) = (List.length z3.2.2.2))))
 (.ret (Sum.inr (((), true), z3.2.2.2)))
 .fail))
 .fail))))))
noncomputable def F56_w (v : List (Int)) : Option ((Unit × Bool) ⊕ ((Unit × Bool) × List (Int))) := (F56_t v).run
noncomputable def F56_E : TEnv := ((((E0.add1 n_F87 F87_sh F87_fo F87).add1 n_F33 F33_sh F33_fo F33).add1 n_F43 F43_sh F43_fo F43).add1 n_F64 F64_sh F64_fo F64)
theorem F56_Eok : (F56_E).OK := ((((E0ok.add1 F87_ok).add1 F33_ok).add1 F43_ok).add1 F64_ok)
noncomputable def F56_told : Nat → Option SealT := fun id => if id = 5 then some (LSh.told F56_L5_sh 0 (F56_L5_step)) else none
theorem F56_L5_ok : ToldOK Tryz.prog 0 (loopAt (bodyOf fn_F56) [0]) (LSh.told F56_L5_sh 0 (F56_L5_step)) :=
  loop_ok (E := F56_E) (F56_Eok) (told := F56_told) (l := F56_L5_sh) (step := F56_L5_step) (loopsOK_of (ls := []) (by kernel_rfl) trivial) (by kernel_rfl) (fun v => by kernel_rfl)
theorem F56_w_ok : FOK Tryz.prog n_F56 F56_sh F56_w_fo F56_w :=
  fn_ok (E := F56_E) (F56_Eok) (told := F56_told) (fl := []) (c := bodyOf fn_F56) (s := F56_sh) (l := F56_w_fo) (tree := F56_t) fnat_F56 (by kernel_rfl) (by kernel_rfl) (by kernel_rfl) (loopsOK_of (ls := [loopAt (bodyOf fn_F56) [0]]) (by kernel_rfl) ⟨.inr ⟨_, by kernel_rfl, F56_L5_ok⟩, trivial⟩) (fun v => by kernel_rfl)
def F56_fo : List FO := [⟨[(.ag [(.rw 0 0)]), (.one .sb)], [(.row 0 (.int .i64))]⟩]
def F56_m : ((Unit × Bool) ⊕ ((Unit × Bool) × List (Int))) → ((Unit × Bool) × List (Int)) := fun o => match o with | (.inl a) => (a, []) | (.inr x) => x
noncomputable def F56 (v : List (Int)) : Option ((Unit × Bool) × List (Int)) := (F56_w v).map F56_m
theorem F56_ok : FOK Tryz.prog n_F56 F56_sh F56_fo F56 :=
  FOK.own (l' := F56_fo) F56_w_ok F56_m [(.int .i64)] (by decide) (fun o => match o with | (.inl a) => .inr (by kernel_rfl) | (.inr x) => .inl (by kernel_rfl))

theorem F56_loop (p : List Int) (hp : isPz p = true) : F56_L5 (((), ((), ((p.length : Int), (0 : Int)))), ((), ((), p))) = some (((), ()), ((), ((), (List.range p.length).foldl hardS p))) := by
  have hpl := isPz_len hp
  have h := loop_fold (step := fun v => (F56_L5_step v).run) (xs := List.range p.length) (fun k (o : List Int) => o.length = p.length ∧ isPz o = true) (fun k o => (((), ((), ((p.length : Int), (k : Int)))), ((), ((), o)))) hardS (fun o => (((), ()), ((), ((), o))))
    (fun k o x hP hx => by
      obtain ⟨hk, e⟩ := List.getElem?_eq_some_iff.1 hx
      simp only [List.getElem_range] at e
      subst e
      rw [List.length_range] at hk
      obtain ⟨hl, hz⟩ := hP
      refine ⟨?_, by rw [hardS_len, hl], hardS_pz hz k⟩
      have c0 : (k : Int) < (p.length : Int) := by omega
      have w1 : w64 ((k : Int) + 1) = ((k + 1 : Nat) : Int) := by rw [w64_id (by omega) (by omega)]; omega
      have hw := F64_eq o (k : Int) 0 (by omega) (by omega) (by omega)
      rw [Int.toNat_natCast] at hw
      have hs := F33_eq (o.set k 0) (isPz_set hz k)
      unfold hardS
      by_cases h1 : (solL (o.set k 0)).length = 1
      · have e1 : (((solL (o.set k 0)).length : Int) == 1) = true := by rw [h1]; rfl
        simp only [F56_L5_step, T.run_test, T.run_sub, T.run_ret, T.run_fail, c0, decide_true, if_true, Nat.zero_add, Nat.le_refl, win_all, hw, Option.bind_some, hs, e1, and_self, w1, if_pos h1]
      · have e1 : (((solL (o.set k 0)).length : Int) == 1) = false := by
          rw [beq_eq_false_iff_ne]; omega
        simp only [F56_L5_step, T.run_test, T.run_sub, T.run_ret, T.run_fail, c0, decide_true, if_true, Nat.zero_add, Nat.le_refl, win_all, hw, Option.bind_some, hs, e1, and_self, w1, if_neg h1, Bool.false_eq_true, if_false])
    (fun o hs => by simp [F56_L5_step, T.run])
    p ⟨rfl, hp⟩
  simp only [Int.natCast_zero] at h
  simp only [F56_L5]
  exact h.1
theorem F56_eq (p : List Int) (hl : p.length < 4611686018427387904) : F56 p = some (((), (hardR p).1), (hardR p).2) := by
  unfold F56 F56_w hardR
  rw [F56_t, T.run_sub, F87_eq p hl, Option.bind_some, T.run_test]
  cases hp : isPz p with
  | false => simp [T.run, F56_m]
  | true =>
    have hpl := isPz_len hp
    have hc : F43 p = some ((), p) := by
      unfold F43
      rw [if_pos]
      exact ⟨by unfold maxLen; omega, by omega⟩
    rw [if_neg (by simp), T.run_sub, F33_eq p hp, Option.bind_some, T.run_test]
    by_cases h1 : (solL p).length = 1
    · have e1 : (((solL p).length : Int) != 1) = false := by rw [h1]; rfl
      have e2 : ((solL p).length == 1) = true := by rw [h1]; rfl
      rw [e1, e2, if_neg (by simp), T.run_sub, hc, Option.bind_some, T.run_test, if_pos (by simp), T.run_sub, F56_loop p hp, Option.bind_some, T.run_test, if_pos (by simp), T.run_ret]
      rfl
    · have e1 : (((solL p).length : Int) != 1) = true := by rw [bne_iff_ne]; omega
      have e2 : ((solL p).length == 1) = false := by rw [beq_eq_false_iff_ne]; exact h1
      rw [e1, e2, if_pos rfl, T.run_ret]
      rfl


def F101_sh : FSh := ⟨[(.ag [(.sl (.int .i64) false false)])], []⟩

def F101_fo : List FO := [⟨[(.one .sb)], []⟩]
noncomputable def F101_t : List (Int) → T Bool := fun p_0 =>
 (.sub (F114 (((List.length p_0) : Int), ((3 : Int), (9 : Int)))) fun z0 =>
 (.test z0
 (.sub (F105 (p_0, ((0 : Int), (w64 (((List.length p_0) : Int) - 2))))) fun z1 =>
 (.ret z1))
 (.ret false)))
noncomputable def F101 (v : List (Int)) : Option Bool := (F101_t v).run
noncomputable def F101_E : TEnv := ((E0.add1 n_F114 F114_sh F114_fo F114).add1 n_F105 F105_sh F105_fo F105)
theorem F101_Eok : (F101_E).OK := ((E0ok.add1 F114_ok).add1 F105_ok)
noncomputable def F101_told : Nat → Option SealT := fun id => none
theorem F101_ok : FOK Tryz.prog n_F101 F101_sh F101_fo F101 :=
  fn_ok (E := F101_E) (F101_Eok) (told := F101_told) (fl := []) (c := bodyOf fn_F101) (s := F101_sh) (l := F101_fo) (tree := F101_t) fnat_F101 (by kernel_rfl) (by kernel_rfl) (by kernel_rfl) (loopsOK_of (ls := []) (by kernel_rfl) trivial) (fun v => by kernel_rfl)

theorem F101_eq (l : List Int) (hl : l.length < 4611686018427387904) : F101 l = some (isPz l) := by
  simp only [F101, F101_t, T.run, F114_eq, Option.bind_some, F105_eq _ _ _ hl, isPz]
  rw [w64_id (by omega) (by omega)]
  cases inB 3 9 l.length <;> simp


def F75_sh : FSh := ⟨[(.one (.si .i64)), (.ag [(.si .i64), (.si .i64)])], []⟩

def F75_fo : List FO := [⟨[(.one .sb)], []⟩]
noncomputable def F75_t : (Int × (Int × Int)) → T Bool := fun (n, (d_0, d_1)) =>
 (.sub (F115 n) fun z0 =>
 (.test z0
 (.sub (F114 (d_0, ((0 : Int), (w64 (n - 1))))) fun z1 =>
 (.test z1
 (.sub (F114 (d_1, ((0 : Int), (w64 (n - 1))))) fun z2 =>
 (.test z2
 (.test (decide ((w64 (d_1 - d_0)) ≥ 2))
 (.ret (decide ((w64 (d_1 - d_0)) ≤ (w64 (n - 2)))))
 (.ret false))
 (.ret false)))
 (.ret false)))
 (.ret false)))
noncomputable def F75 (v : (Int × (Int × Int))) : Option Bool := (F75_t v).run
noncomputable def F75_E : TEnv := ((E0.add1 n_F115 F115_sh F115_fo F115).add1 n_F114 F114_sh F114_fo F114)
theorem F75_Eok : (F75_E).OK := ((E0ok.add1 F115_ok).add1 F114_ok)
noncomputable def F75_told : Nat → Option SealT := fun id => none
theorem F75_ok : FOK Tryz.prog n_F75 F75_sh F75_fo F75 :=
  fn_ok (E := F75_E) (F75_Eok) (told := F75_told) (fl := []) (c := bodyOf fn_F75) (s := F75_sh) (l := F75_fo) (tree := F75_t) fnat_F75 (by kernel_rfl) (by kernel_rfl) (by kernel_rfl) (loopsOK_of (ls := []) (by kernel_rfl) trivial) (fun v => by kernel_rfl)

theorem F75_eq (n : Int) (d : Dg) (h1 : 3 ≤ n) (h2 : n ≤ 12) : F75 (n, d) = some (inDg n d) := by
  obtain ⟨a, b⟩ := d
  have hp : inB 3 12 n = true := inB_iff.2 ⟨h1, h2⟩
  simp only [F75, F75_t, T.run, F115, F115_t, F114_eq, Option.bind_some, hp, if_true, w64_id (z := n - 1) (by omega) (by omega), w64_id (z := n - 2) (by omega) (by omega)]
  cases ha : inB 0 (n - 1) a with
  | false => simp [inDg, ha]
  | true =>
    cases hb : inB 0 (n - 1) b with
    | false => simp [inDg, hb]
    | true =>
      have e : inDg n (a, b) = decide (b - a ≥ 2 ∧ b - a ≤ n - 2) := by
        rw [Bool.eq_iff_iff, inDg_iff, decide_eq_true_eq]
        rw [inB_iff] at ha hb
        simp only []
        omega
      rw [inB_iff] at ha hb
      rw [w64_id (z := b - a) (by omega) (by omega), e]
      by_cases g1 : b - a ≥ 2 <;> by_cases g2 : b - a ≤ n - 2 <;> simp [g1, g2]


def F93_sh : FSh := ⟨[(.ag [(.si .i64), (.si .i64)]), (.ag [(.si .i64), (.si .i64)])], []⟩

def F93_fo : List FO := [⟨[(.one .sb)], []⟩]
noncomputable def F93_t : ((Int × Int) × (Int × Int)) → T Bool := fun ((d_0, d_1), (e_0, e_1)) =>
 (.test (decide (d_0 < e_0))
 (.test (decide (e_0 < d_1))
 (.test (decide (d_1 < e_1))
 (.ret true)
 (.test (decide (e_0 < d_0))
 (.test (decide (d_0 < e_1))
 (.ret (decide (e_1 < d_1)))
 (.ret false))
 (.ret false)))
 (.test (decide (e_0 < d_0))
 (.test (decide (d_0 < e_1))
 (.ret (decide (e_1 < d_1)))
 (.ret false))
 (.ret false)))
 (.test (decide (e_0 < d_0))
 (.test (decide (d_0 < e_1))
 (.ret (decide (e_1 < d_1)))
 (.ret false))
 (.ret false)))
noncomputable def F93 (v : ((Int × Int) × (Int × Int))) : Option Bool := (F93_t v).run
noncomputable def F93_E : TEnv := E0
theorem F93_Eok : (F93_E).OK := E0ok
noncomputable def F93_told : Nat → Option SealT := fun id => none
theorem F93_ok : FOK Tryz.prog n_F93 F93_sh F93_fo F93 :=
  fn_ok (E := F93_E) (F93_Eok) (told := F93_told) (fl := []) (c := bodyOf fn_F93) (s := F93_sh) (l := F93_fo) (tree := F93_t) fnat_F93 (by kernel_rfl) (by kernel_rfl) (by kernel_rfl) (loopsOK_of (ls := []) (by kernel_rfl) trivial) (fun v => by kernel_rfl)

theorem F93_eq (d e : Dg) : F93 (d, e) = some (crossD d e) := by
  obtain ⟨a, b⟩ := d
  obtain ⟨c, f⟩ := e
  simp only [F93, F93_t, T.run, crossD]
  by_cases h1 : a < c <;> by_cases h2 : c < b <;> by_cases h3 : b < f <;> by_cases h4 : c < a <;> by_cases h5 : a < f <;> by_cases h6 : f < b <;> simp [h1, h2, h3, h4, h5, h6]


def F83_sh : FSh := ⟨[(.one (.si .i64)), (.one (.sl (.pair (.int .i64) (.int .i64)) false false)), (.one (.sl (.pair (.int .i64) (.int .i64)) false false)), (.one (.pf 0 0 0))], [(.rcd 0 [(.rw 1 0)]), (.row 0 (.list true (.pair (.int .i64) (.int .i64))))]⟩

def F83_fo : List FO := [⟨[], [(.rcd 0 [(.rw 1 1)]), (.row 1 (.list true (.pair (.int .i64) (.int .i64))))]⟩]

def F83_L7_sh : LSh := ⟨(fun ex => match ex with | .norm => [(0, none), (1, none), (2, none), (3, none), (8, none), (9, none), (10, none), (28, none), (29, none), (30, none), (35, none), (36, none), (37, none)] | .exit i => if i = 2 then [(0, none), (1, none), (2, none), (3, none), (8, none), (9, none), (10, none), (28, none), (29, none), (30, none)] else if i = 1 then [(0, none), (1, none), (2, none), (3, none), (28, none), (29, none), (30, none)] else if i = 0 then [] else [] | .ret => []), [(0, (.one (.si .i64))), (1, (.one (.sl (.pair (.int .i64) (.int .i64)) false false))), (2, (.one (.sl (.pair (.int .i64) (.int .i64)) false false))), (3, (.one (.pf 0 0 0))), (8, (.one (.si .i64))), (9, (.one (.pf 2 0 0))), (10, (.one .sb)), (28, (.one (.sl (.pair (.int .i64) (.int .i64)) false false))), (29, (.one (.si .i64))), (30, (.one (.si .i64))), (35, (.one (.sl (.pair (.int .i64) (.int .i64)) false false))), (36, (.one (.si .i64))), (37, (.one (.si .i64)))], [(.rcd 0 [(.rw 1 1)]), (.row 1 (.list true (.pair (.int .i64) (.int .i64)))), (.rcd 0 [(.si .i64), (.si .i64)])], [⟨(.exit 2), [(0, (.one (.si .i64))), (1, (.one (.sl (.pair (.int .i64) (.int .i64)) false false))), (2, (.one (.sl (.pair (.int .i64) (.int .i64)) false false))), (3, (.one (.pf 0 0 0))), (8, (.one (.si .i64))), (9, (.one (.pf 2 0 0))), (10, (.one .sb)), (28, (.one (.sl (.pair (.int .i64) (.int .i64)) false false))), (29, (.one (.si .i64))), (30, (.one (.si .i64)))], [(.rcd 0 [(.rw 1 1)]), (.row 1 (.list true (.pair (.int .i64) (.int .i64)))), (.rcd 0 [(.si .i64), (.si .i64)])]⟩], [], []⟩
noncomputable def F83_L7_step (recv : ((Int × List ((Int × Int)) × List ((Int × Int)) × Unit) × (Unit × List (List ((Int × Int))))) → Option (Unit × (Unit × List (List ((Int × Int)))))) : ((Int × List ((Int × Int)) × List ((Int × Int)) × Unit × Int × Unit × Bool × List ((Int × Int)) × Int × Int × List ((Int × Int)) × Int × Int) × (Unit × List (List ((Int × Int))) × (Int × Int))) → T (((Int × List ((Int × Int)) × List ((Int × Int)) × Unit × Int × Unit × Bool × List ((Int × Int)) × Int × Int × List ((Int × Int)) × Int × Int) × (Unit × List (List ((Int × Int))) × (Int × Int))) ⊕ ((Int × List ((Int × Int)) × List ((Int × Int)) × Unit × Int × Unit × Bool × List ((Int × Int)) × Int × Int) × (Unit × List (List ((Int × Int))) × (Int × Int)))) := fun ((n, all, begin, (), i, (), free, t28, t29, t30, t35, t36, t37), ((), out_r, (d_0, d_1))) =>
 (.test (decide (t37 < t36))
 (.test (decide ((0 ≤ t37) ∧ (t37 < ((List.length t35) : Int))))
 (.sub (t35[(Int.toNat t37)]?) fun z0 =>
 (.test free
 (.sub (F93 ((d_0, d_1), (z0.1, z0.2))) fun z1 =>
 (.test (decide ((0 = 0) ∧ ((List.length out_r) = (List.length out_r))))
 (.ret (Sum.inl ((n, (all, (begin, ((), (i, ((), ((! z1), (t28, (t29, (t30, (t35, (t36, (w64 (t37 + 1)))))))))))))), ((), (out_r, (d_0, d_1))))))
 .fail))
 (.test (decide ((0 = 0) ∧ ((List.length out_r) = (List.length out_r))))
 (.ret (Sum.inl ((n, (all, (begin, ((), (i, ((), (false, (t28, (t29, (t30, (t35, (t36, (w64 (t37 + 1)))))))))))))), ((), (out_r, (d_0, d_1))))))
 .fail)))
 .fail)
 (.test (decide ((0 = 0) ∧ ((List.length out_r) = (List.length out_r))))
 (.ret (Sum.inr ((n, (all, (begin, ((), (i, ((), (free, (t28, (t29, t30))))))))), ((), (out_r, (d_0, d_1))))))
 .fail))
noncomputable def F83_L7 (recv : ((Int × List ((Int × Int)) × List ((Int × Int)) × Unit) × (Unit × List (List ((Int × Int))))) → Option (Unit × (Unit × List (List ((Int × Int)))))) (v : ((Int × List ((Int × Int)) × List ((Int × Int)) × Unit × Int × Unit × Bool × List ((Int × Int)) × Int × Int × List ((Int × Int)) × Int × Int) × (Unit × List (List ((Int × Int))) × (Int × Int)))) : Option ((Int × List ((Int × Int)) × List ((Int × Int)) × Unit × Int × Unit × Bool × List ((Int × Int)) × Int × Int) × (Unit × List (List ((Int × Int))) × (Int × Int))) := loopO (fun v => (F83_L7_step recv v).run) v

def F83_L3_sh : LSh := ⟨(fun ex => match ex with | .norm => [(0, none), (1, none), (2, none), (3, none), (28, none), (29, none), (30, none)] | .exit i => if i = 0 then [] else [] | .ret => []), [(0, (.one (.si .i64))), (1, (.one (.sl (.pair (.int .i64) (.int .i64)) false false))), (2, (.one (.sl (.pair (.int .i64) (.int .i64)) false false))), (3, (.one (.pf 0 0 0))), (28, (.one (.sl (.pair (.int .i64) (.int .i64)) false false))), (29, (.one (.si .i64))), (30, (.one (.si .i64)))], [(.rcd 0 [(.rw 1 1)]), (.row 1 (.list true (.pair (.int .i64) (.int .i64))))], [⟨(.exit 0), [], [(.rcd 0 [(.rw 1 1)]), (.row 1 (.list true (.pair (.int .i64) (.int .i64))))]⟩], [], [1]⟩
noncomputable def F83_L3_step (recv : ((Int × List ((Int × Int)) × List ((Int × Int)) × Unit) × (Unit × List (List ((Int × Int))))) → Option (Unit × (Unit × List (List ((Int × Int)))))) : ((Int × List ((Int × Int)) × List ((Int × Int)) × Unit × List ((Int × Int)) × Int × Int) × (Unit × List (List ((Int × Int))))) → T (((Int × List ((Int × Int)) × List ((Int × Int)) × Unit × List ((Int × Int)) × Int × Int) × (Unit × List (List ((Int × Int))))) ⊕ (Unit × (Unit × List (List ((Int × Int)))))) := fun ((n, all, begin, (), t28, t29, t30), ((), out_r)) =>
 (.test (decide (t30 < t29))
 (.test (decide ((0 ≤ t30) ∧ (t30 < ((List.length t28) : Int))))
 (.sub (t28[(Int.toNat t30)]?) fun z0 =>
 (.test (decide ((0 = 0) ∧ ((List.length out_r) = (List.length out_r))))
 (.sub (F83_L7 recv ((n, (all, (begin, ((), (t30, ((), (true, (t28, (t29, (t30, (begin, (((List.length begin) : Int), (0 : Int))))))))))))), ((), (out_r, (z0.1, z0.2))))) fun z1 =>
 (.test z1.1.2.2.2.2.2.2.1
 (.test (decide (0 ≤ (w64 (z1.1.2.2.2.2.1 + 1))))
 (.test (decide (((Int.toNat (w64 (z1.1.2.2.2.2.1 + 1))) ≤ (List.length z1.1.2.1)) ∧ ((List.length z1.1.2.1) ≤ (List.length z1.1.2.1))))
 (.test true
 (.test (decide ((2 * ((0 + (List.length z1.1.2.2.1)) * (16 + 1))) ≤ 140737488355328))
 (.test (decide (1 ≤ (List.length (List.set (List.replicate 1 ((0 : Int), (0 : Int))) 0 (z1.2.2.2.1, z1.2.2.2.2)))))
 (.test (decide ((0 + (0 + (List.length z1.1.2.2.1))) ≤ (List.length ((win (List.replicate 0 ((0 : Int), (0 : Int))) 0 0) ++ z1.1.2.2.1))))
 (.test (decide ((2 * (((0 + (List.length z1.1.2.2.1)) + (List.length (win (List.set (List.replicate 1 ((0 : Int), (0 : Int))) 0 (z1.2.2.2.1, z1.2.2.2.2)) 0 1))) * (16 + 1))) ≤ 140737488355328))
 (.test (decide ((0 + ((0 + (List.length z1.1.2.2.1)) + (List.length (win (List.set (List.replicate 1 ((0 : Int), (0 : Int))) 0 (z1.2.2.2.1, z1.2.2.2.2)) 0 1)))) ≤ (List.length ((win ((win (List.replicate 0 ((0 : Int), (0 : Int))) 0 0) ++ z1.1.2.2.1) 0 (0 + (List.length z1.1.2.2.1))) ++ (win (List.set (List.replicate 1 ((0 : Int), (0 : Int))) 0 (z1.2.2.2.1, z1.2.2.2.2)) 0 1)))))
 (.test (decide ((0 = 0) ∧ ((List.length z1.2.2.1) = (List.length z1.2.2.1))))
 (.sub (recv ((z1.1.1, ((win z1.1.2.1 (Int.toNat (w64 (z1.1.2.2.2.2.1 + 1))) ((List.length z1.1.2.1) - (Int.toNat (w64 (z1.1.2.2.2.2.1 + 1))))), ((win ((win ((win (List.replicate 0 ((0 : Int), (0 : Int))) 0 0) ++ z1.1.2.2.1) 0 (0 + (List.length z1.1.2.2.1))) ++ (win (List.set (List.replicate 1 ((0 : Int), (0 : Int))) 0 (z1.2.2.2.1, z1.2.2.2.2)) 0 1)) 0 ((0 + (List.length z1.1.2.2.1)) + (List.length (win (List.set (List.replicate 1 ((0 : Int), (0 : Int))) 0 (z1.2.2.2.1, z1.2.2.2.2)) 0 1)))), ()))), ((), z1.2.2.1))) fun z2 =>
 (.test (decide ((0 = 0) ∧ ((List.length z2.2.2) = (List.length z2.2.2))))
 (.ret (Sum.inl ((z1.1.1, (z1.1.2.1, (z1.1.2.2.1, ((), (z1.1.2.2.2.2.2.2.2.1, (z1.1.2.2.2.2.2.2.2.2.1, (w64 (z1.1.2.2.2.2.2.2.2.2.2 + 1)))))))), ((), z2.2.2))))
 .fail))
 .fail)
 .fail)
 .fail)
 .fail)
 .fail)
 .fail)
 .fail)
 .fail)
 .fail)
 (.test (decide ((0 = 0) ∧ ((List.length z1.2.2.1) = (List.length z1.2.2.1))))
 (.ret (Sum.inl ((z1.1.1, (z1.1.2.1, (z1.1.2.2.1, ((), (z1.1.2.2.2.2.2.2.2.1, (z1.1.2.2.2.2.2.2.2.2.1, (w64 (z1.1.2.2.2.2.2.2.2.2.2 + 1)))))))), ((), z1.2.2.1))))
 .fail)))
 .fail))
 .fail)
 (.test (decide ((0 = 0) ∧ ((List.length out_r) = (List.length out_r))))
 (.ret (Sum.inr ((), ((), out_r))))
 .fail))
noncomputable def F83_L3 (recv : ((Int × List ((Int × Int)) × List ((Int × Int)) × Unit) × (Unit × List (List ((Int × Int))))) → Option (Unit × (Unit × List (List ((Int × Int)))))) (v : ((Int × List ((Int × Int)) × List ((Int × Int)) × Unit × List ((Int × Int)) × Int × Int) × (Unit × List (List ((Int × Int)))))) : Option (Unit × (Unit × List (List ((Int × Int))))) := loopO (fun v => (F83_L3_step recv v).run) v

noncomputable def F83_t (recv : ((Int × List ((Int × Int)) × List ((Int × Int)) × Unit) × (Unit × List (List ((Int × Int))))) → Option (Unit × (Unit × List (List ((Int × Int)))))) : ((Int × List ((Int × Int)) × List ((Int × Int)) × Unit) × (Unit × List (List ((Int × Int))))) → T (Unit × (Unit × List (List ((Int × Int))))) := fun ((n, all, begin, ()), ((), out_r)) =>
 (.test (((List.length begin) : Int) == (w64 (n - 3)))
 (.test true
 (.test (decide ((2 * ((0 + (List.length begin)) * (16 + 1))) ≤ 140737488355328))
 (.test (decide ((0 + (0 + (List.length begin))) ≤ (List.length ((win (List.replicate 0 ((0 : Int), (0 : Int))) 0 0) ++ begin))))
 (.test (decide (1 ≤ (List.length (List.set (List.replicate 1 ([] : List (Int × Int))) 0 (win ((win (List.replicate 0 ((0 : Int), (0 : Int))) 0 0) ++ begin) 0 (0 + (List.length begin)))))))
 (.test (decide ((0 + (List.length out_r)) ≤ (List.length out_r)))
 (.test (decide ((2 * (((List.length out_r) + (List.length (win (List.set (List.replicate 1 ([] : List (Int × Int))) 0 (win ((win (List.replicate 0 ((0 : Int), (0 : Int))) 0 0) ++ begin) 0 (0 + (List.length begin)))) 0 1))) * (24 + 1))) ≤ 140737488355328))
 (.test (decide ((0 = 0) ∧ (((List.length out_r) + (List.length (win (List.set (List.replicate 1 ([] : List (Int × Int))) 0 (win ((win (List.replicate 0 ((0 : Int), (0 : Int))) 0 0) ++ begin) 0 (0 + (List.length begin)))) 0 1))) = (List.length ((win out_r 0 (List.length out_r)) ++ (win (List.set (List.replicate 1 ([] : List (Int × Int))) 0 (win ((win (List.replicate 0 ((0 : Int), (0 : Int))) 0 0) ++ begin) 0 (0 + (List.length begin)))) 0 1))))))
 (.ret ((), ((), ((win out_r 0 (List.length out_r)) ++ (win (List.set (List.replicate 1 ([] : List (Int × Int))) 0 (win ((win (List.replicate 0 ((0 : Int), (0 : Int))) 0 0) ++ begin) 0 (0 + (List.length begin)))) 0 1)))))
 .fail)
 .fail)
 .fail)
 .fail)
 .fail)
 .fail)
 .fail)
 (.test (decide ((0 = 0) ∧ ((List.length out_r) = (List.length out_r))))
 (.sub (F83_L3 recv ((n, (all, (begin, ((), (all, (((List.length all) : Int), (0 : Int))))))), ((), out_r))) fun z0 =>
 (.test (decide ((0 = 0) ∧ ((List.length z0.2.2) = (List.length z0.2.2))))
 (.ret ((), ((), z0.2.2)))
 .fail))
 .fail))
noncomputable def F83_f (recv : ((Int × List ((Int × Int)) × List ((Int × Int)) × Unit) × (Unit × List (List ((Int × Int))))) → Option (Unit × (Unit × List (List ((Int × Int)))))) (v : ((Int × List ((Int × Int)) × List ((Int × Int)) × Unit) × (Unit × List (List ((Int × Int)))))) : Option (Unit × (Unit × List (List ((Int × Int))))) := (F83_t recv v).run
noncomputable def F83 : ((Int × List ((Int × Int)) × List ((Int × Int)) × Unit) × (Unit × List (List ((Int × Int))))) → Option (Unit × (Unit × List (List ((Int × Int))))) := recF F83_f
noncomputable def F83_E (recv : ((Int × List ((Int × Int)) × List ((Int × Int)) × Unit) × (Unit × List (List ((Int × Int))))) → Option (Unit × (Unit × List (List ((Int × Int)))))) : TEnv := ((E0.add1 n_F93 F93_sh F93_fo F93).add1 n_F102 F83_sh F83_fo recv)
theorem F83_Eok (recv : ((Int × List ((Int × Int)) × List ((Int × Int)) × Unit) × (Unit × List (List ((Int × Int))))) → Option (Unit × (Unit × List (List ((Int × Int)))))) (hrec : FOK Tryz.prog n_F102 F83_sh F83_fo recv) : (F83_E recv).OK := ((E0ok.add1 F93_ok).add1 hrec)
noncomputable def F83_told (recv : ((Int × List ((Int × Int)) × List ((Int × Int)) × Unit) × (Unit × List (List ((Int × Int))))) → Option (Unit × (Unit × List (List ((Int × Int)))))) : Nat → Option SealT := fun id => if id = 7 then some (LSh.told F83_L7_sh 2 (F83_L7_step recv)) else if id = 3 then some (LSh.told F83_L3_sh 2 (F83_L3_step recv)) else none
theorem F83_L7_ok (recv : ((Int × List ((Int × Int)) × List ((Int × Int)) × Unit) × (Unit × List (List ((Int × Int))))) → Option (Unit × (Unit × List (List ((Int × Int)))))) (hrec : FOK Tryz.prog n_F102 F83_sh F83_fo recv) : ToldOK Tryz.prog 2 (loopAt (bodyOf fn_F102) [0, 0]) (LSh.told F83_L7_sh 2 (F83_L7_step recv)) :=
  loop_ok (E := F83_E recv) (F83_Eok recv hrec) (told := F83_told recv) (l := F83_L7_sh) (step := F83_L7_step recv) (loopsOK_of (ls := []) (by kernel_rfl) trivial) (by kernel_rfl) (fun v => by kernel_rfl)
theorem F83_L3_ok (recv : ((Int × List ((Int × Int)) × List ((Int × Int)) × Unit) × (Unit × List (List ((Int × Int))))) → Option (Unit × (Unit × List (List ((Int × Int)))))) (hrec : FOK Tryz.prog n_F102 F83_sh F83_fo recv) : ToldOK Tryz.prog 2 (loopAt (bodyOf fn_F102) [0]) (LSh.told F83_L3_sh 2 (F83_L3_step recv)) :=
  loop_ok (E := F83_E recv) (F83_Eok recv hrec) (told := F83_told recv) (l := F83_L3_sh) (step := F83_L3_step recv) (loopsOK_of (ls := [loopAt (bodyOf fn_F102) [0, 0]]) (by kernel_rfl) ⟨.inr ⟨_, by kernel_rfl, F83_L7_ok recv hrec⟩, trivial⟩) (by kernel_rfl) (fun v => by kernel_rfl)
theorem F83_okr (recv : ((Int × List ((Int × Int)) × List ((Int × Int)) × Unit) × (Unit × List (List ((Int × Int))))) → Option (Unit × (Unit × List (List ((Int × Int)))))) (hrec : FOK Tryz.prog n_F102 F83_sh F83_fo recv) : FOK Tryz.prog n_F102 F83_sh F83_fo (F83_f recv) :=
  fn_ok (E := F83_E recv) (F83_Eok recv hrec) (told := F83_told recv) (fl := []) (c := bodyOf fn_F102) (s := F83_sh) (l := F83_fo) (tree := F83_t recv) fnat_F102 (by kernel_rfl) (by kernel_rfl) (by kernel_rfl) (loopsOK_of (ls := [loopAt (bodyOf fn_F102) [0]]) (by kernel_rfl) ⟨.inr ⟨_, by kernel_rfl, F83_L3_ok recv hrec⟩, trivial⟩) (fun v => by kernel_rfl)
theorem F83_ok : FOK Tryz.prog n_F102 F83_sh F83_fo F83 := FOK.rec (fun F h => F83_okr F h) recLim

theorem F83_free (recv : _ → Option _) (n : Int) (all b : List Dg) (i t29 t30 : Int) (t28 : List Dg) (d : Dg) (out : List (List Dg)) (hb : b.length < 1000000) :
    F83_L7 recv ((n, (all, (b, ((), (i, ((), (true, (t28, (t29, (t30, (b, ((b.length : Int), (0 : Int))))))))))))), ((), (out, d))) = some ((n, (all, (b, ((), (i, ((), (freeD d b, (t28, (t29, t30))))))))), ((), (out, d))) := by
  obtain ⟨d0, d1⟩ := d
  have key : ∀ m k (f : Bool), k + m = b.length → F83_L7 recv ((n, (all, (b, ((), (i, ((), (f, (t28, (t29, (t30, (b, ((b.length : Int), (k : Int))))))))))))), ((), (out, (d0, d1)))) = some ((n, (all, (b, ((), (i, ((), ((f && !(b.drop k).any (crossD (d0, d1))), (t28, (t29, t30))))))))), ((), (out, (d0, d1)))) := by
    intro m
    induction m with
    | zero =>
      intro k f hk
      have : k = b.length := by omega
      subst this
      simp only [F83_L7]
      exact loopO_done (by simp [F83_L7_step, T.run])
    | succ m ih =>
      intro k f hk
      have hlt : k < b.length := by omega
      have c0 : (k : Int) < (b.length : Int) := by omega
      have c1 : (0 : Int) ≤ (k : Int) ∧ (k : Int) < (b.length : Int) := by omega
      have w1 : w64 ((k : Int) + 1) = ((k + 1 : Nat) : Int) := by rw [w64_id (by omega) (by omega)]; omega
      rw [drop_gD hlt, List.any_cons]
      have ih := ih (k + 1) (f && !crossD (d0, d1) (gD b k)) (by omega)
      simp only [F83_L7] at ih ⊢
      have st : (F83_L7_step recv ((n, (all, (b, ((), (i, ((), (f, (t28, (t29, (t30, (b, ((b.length : Int), (k : Int))))))))))))), ((), (out, (d0, d1))))).run =
          some (.inl ((n, (all, (b, ((), (i, ((), ((f && !crossD (d0, d1) (gD b k)), (t28, (t29, (t30, (b, ((b.length : Int), ((k + 1 : Nat) : Int))))))))))))), ((), (out, (d0, d1))))) := by
        cases f with
        | true => simp only [F83_L7_step, T.run, c0, c1, decide_true, if_true, and_self, true_and, Int.toNat_natCast, gD_some hlt, Option.bind_some, F93_eq, w1, Bool.true_and]
        | false => simp only [F83_L7_step, T.run, c0, c1, decide_true, if_true, and_self, true_and, Int.toNat_natCast, gD_some hlt, Option.bind_some, w1, Bool.false_and, Bool.false_eq_true, if_false]
      rw [loopO_next st, ih]
      congr 2
      cases f <;> cases crossD (d0, d1) (gD b k) <;> simp
  have := key b.length 0 true (by omega)
  simpa [freeD] using this
theorem F83_loop (n : Nat) (t b : List Dg) (recv : _ → Option _) (hn : 3 ≤ n ∧ n ≤ 9) (ht : t.length ≤ 27) (hb : b.length < 1000) :
    ∀ (m i : Nat) (out : List (List Dg)), i + m = t.length → out.length + 2 ^ m ≤ 1000000000 →
    (∀ (j : Nat) (out : List (List Dg)), i ≤ j → j < t.length → out.length + 2 ^ (t.length - (j + 1)) ≤ 1000000000 →
      recv (((n : Int), (t.drop (j + 1), (b ++ [gD t j], ()))), ((), out)) = some ((), ((), out ++ lookL (n - 3) (t.drop (j + 1)) (b ++ [gD t j])))) →
    F83_L3 recv (((n : Int), (t, (b, ((), (t, ((t.length : Int), (i : Int))))))), ((), out)) = some ((), ((), out ++ goL (n - 3) (t.drop i) b))
  | 0, i, out, hi, ho, hr => by
    have : i = t.length := by omega
    subst this
    rw [List.drop_length]
    simp only [F83_L3, goL, List.append_nil]
    exact loopO_done (by simp [F83_L3_step, T.run])
  | m + 1, i, out, hi, ho, hr => by
    have hlt : i < t.length := by omega
    have c0 : (i : Int) < (t.length : Int) := by omega
    have c2 : (0 : Int) ≤ (i : Int) ∧ (i : Int) < (t.length : Int) := by omega
    have w1 : w64 ((i : Int) + 1) = ((i + 1 : Nat) : Int) := by rw [w64_id (by omega) (by omega)]; omega
    have hp : 2 ^ (m + 1) = 2 ^ m + 2 ^ m := by rw [Nat.pow_succ]; omega
    have hp0 : 1 ≤ 2 ^ m := Nat.one_le_two_pow
    have hm : m = t.length - (i + 1) := by omega
    have hfree := F83_free recv (n : Int) t b (i : Int) (t.length : Int) (i : Int) t (gD t i) out (by omega)
    rw [drop_gD hlt, goL_cons]
    cases hf : freeD (gD t i) b with
    | false =>
      have ih := F83_loop n t b recv hn ht hb m (i + 1) out (by omega) (by omega) (fun j o h1 h2 h3 => hr j o (by omega) h2 h3)
      rw [hf] at hfree
      simp only [Bool.false_eq_true, if_false, List.nil_append]
      simp only [F83_L3] at ih ⊢
      rw [← ih]
      refine loopO_next ?_
      simp only [F83_L3_step, T.run, c0, c2, decide_true, if_true, true_and, and_self, Int.toNat_natCast, gD_some hlt, Option.bind_some, hfree, Bool.false_eq_true, if_false, w1]
    | true =>
      have hrec := hr i out (Nat.le_refl _) hlt (by rw [← hm]; omega)
      have hll := look_pow (t := t) (b := b ++ [gD t i]) (i := i) (k := n - 3) hm
      have ih := F83_loop n t b recv hn ht hb m (i + 1) (out ++ lookL (n - 3) (t.drop (i + 1)) (b ++ [gD t i])) (by omega) (by rw [List.length_append]; omega) (fun j o h1 h2 h3 => hr j o (by omega) h2 h3)
      rw [hf] at hfree
      simp only [if_true]
      rw [← List.append_assoc]
      simp only [F83_L3] at ih ⊢
      rw [← ih]
      refine loopO_next ?_
      have c1 : (0 : Int) ≤ ((i + 1 : Nat) : Int) := by omega
      have c3 : i + 1 ≤ t.length ∧ t.length ≤ t.length := by omega
      have c4 : 2 * ((0 + b.length) * (16 + 1)) ≤ 140737488355328 := by omega
      have c5 : 2 * ((0 + b.length + 1) * (16 + 1)) ≤ 140737488355328 := by omega
      have hw0 : win ([] : List Dg) 0 0 = [] := rfl
      have hw1 : win b 0 (0 + b.length) = b := by rw [Nat.zero_add]; exact win_all _
      have hl1 : (b ++ [gD t i]).length = 0 + b.length + 1 := by simp
      have hw2 : win (b ++ [gD t i]) 0 (0 + b.length + 1) = b ++ [gD t i] := by rw [← hl1]; exact win_all _
      have hw3 : win t (i + 1) (t.length - (i + 1)) = t.drop (i + 1) := by unfold win; rw [List.take_of_length_le (by rw [List.length_drop]; omega)]
      simp only [F83_L3_step, T.run, c0, c1, c2, c3, c4, c5, decide_true, if_true, true_and, and_self, Int.toNat_natCast, gD_some hlt, Option.bind_some, hfree, w1, List.replicate_zero, hw0, List.nil_append, hw1, win_one, List.length_cons, List.length_nil, hw2, hw3, hrec, List.length_set, List.length_replicate, Nat.le_refl, List.length_append]
      simp
theorem F83_eq (n : Nat) (hn : 3 ≤ n ∧ n ≤ 9) : ∀ (k : Nat) (t b : List Dg) (out : List (List Dg)), t.length ≤ 27 → t.length < k → b.length + t.length < 100 → out.length + 2 ^ t.length ≤ 1000000000 →
    recN F83_f k (((n : Int), (t, (b, ()))), ((), out)) = some ((), ((), out ++ lookL (n - 3) t b))
  | 0, t, b, out, ht, hk, hb, ho => absurd hk (Nat.not_lt_zero _)
  | k + 1, t, b, out, ht, hk, hb, ho => by
    show F83_f (recN F83_f k) _ = _
    have hp : 1 ≤ 2 ^ t.length := Nat.one_le_two_pow
    have w0 : w64 ((n : Int) - 3) = ((n - 3 : Nat) : Int) := by rw [w64_id (by omega) (by omega)]; omega
    simp only [F83_f, F83_t, T.run, w0]
    by_cases hl : b.length = n - 3
    · have e : ((b.length : Int) == ((n - 3 : Nat) : Int)) = true := by simp; omega
      have c1 : 2 * ((out.length + 1) * (24 + 1)) ≤ 140737488355328 := by omega
      have c2 : 2 * (b.length * (16 + 1)) ≤ 140737488355328 := by omega
      have hone : win (List.set (List.replicate 1 ([] : List Dg)) 0 b) 0 1 = [b] := rfl
      have hw0 : win ([] : List Dg) 0 0 = [] := rfl
      have hw1 : win b 0 (0 + b.length) = b := by rw [Nat.zero_add]; exact win_all _
      unfold lookL
      rw [if_pos hl]
      simp only [e, if_true, List.replicate_zero, hw0, List.nil_append, hw1, c2, decide_true, hone, List.length_cons, List.length_nil, c1, win_all, List.length_set, List.length_replicate, Nat.le_refl, List.length_append, true_and, Nat.zero_add]
    · have e : ((b.length : Int) == ((n - 3 : Nat) : Int)) = false := by simp; omega
      unfold lookL
      rw [if_neg hl]
      have h3 := F83_loop n t b (recN F83_f k) hn ht (by omega) t.length 0 out (by omega) ho (fun j o h1 h2 h3 => by
        exact F83_eq n hn k (t.drop (j + 1)) (b ++ [gD t j]) o (by rw [List.length_drop]; omega) (by rw [List.length_drop]; omega) (by rw [List.length_drop, List.length_append, List.length_cons, List.length_nil]; omega) (by rw [List.length_drop]; exact h3))
      rw [List.drop_zero, Int.natCast_zero] at h3
      simp only [e, Bool.false_eq_true, if_false, true_and, decide_true, if_true, h3, Option.bind_some]


def F102_sh : FSh := ⟨[(.one (.si .i64)), (.one (.sl (.pair (.int .i64) (.int .i64)) false false)), (.one (.sl (.pair (.int .i64) (.int .i64)) false false)), (.one (.pf 0 0 0))], [(.rcd 0 [(.nl true true)])]⟩

def F102_L7_sh : LSh := ⟨(fun ex => match ex with | .norm => [(0, none), (1, none), (2, none), (3, none), (8, none), (9, none), (10, none), (28, none), (29, none), (30, none), (35, none), (36, none), (37, none)] | .exit i => if i = 2 then [(0, none), (1, none), (2, none), (3, none), (8, none), (9, none), (10, none), (28, none), (29, none), (30, none)] else if i = 1 then [(0, none), (1, none), (2, none), (3, none), (28, none), (29, none), (30, none)] else if i = 0 then [] else [] | .ret => []), [(0, (.one (.si .i64))), (1, (.one (.sl (.pair (.int .i64) (.int .i64)) false false))), (2, (.one (.sl (.pair (.int .i64) (.int .i64)) false false))), (3, (.one (.pf 0 0 0))), (8, (.one (.si .i64))), (9, (.one (.pf 2 0 0))), (10, (.one .sb)), (28, (.one (.sl (.pair (.int .i64) (.int .i64)) false false))), (29, (.one (.si .i64))), (30, (.one (.si .i64))), (35, (.one (.sl (.pair (.int .i64) (.int .i64)) false false))), (36, (.one (.si .i64))), (37, (.one (.si .i64)))], [(.rcd 0 [(.rw 1 0)]), (.row 0 (.list true (.pair (.int .i64) (.int .i64)))), (.rcd 0 [(.si .i64), (.si .i64)])], [⟨(.exit 2), [(0, (.one (.si .i64))), (1, (.one (.sl (.pair (.int .i64) (.int .i64)) false false))), (2, (.one (.sl (.pair (.int .i64) (.int .i64)) false false))), (3, (.one (.pf 0 0 0))), (8, (.one (.si .i64))), (9, (.one (.pf 2 0 0))), (10, (.one .sb)), (28, (.one (.sl (.pair (.int .i64) (.int .i64)) false false))), (29, (.one (.si .i64))), (30, (.one (.si .i64)))], [(.rcd 0 [(.rw 1 0)]), (.row 0 (.list true (.pair (.int .i64) (.int .i64)))), (.rcd 0 [(.si .i64), (.si .i64)])]⟩], [], []⟩
noncomputable def F102_L7_step : ((Int × List ((Int × Int)) × List ((Int × Int)) × Unit × Int × Unit × Bool × List ((Int × Int)) × Int × Int × List ((Int × Int)) × Int × Int) × (Unit × List (List ((Int × Int))) × (Int × Int))) → T (((Int × List ((Int × Int)) × List ((Int × Int)) × Unit × Int × Unit × Bool × List ((Int × Int)) × Int × Int × List ((Int × Int)) × Int × Int) × (Unit × List (List ((Int × Int))) × (Int × Int))) ⊕ ((Int × List ((Int × Int)) × List ((Int × Int)) × Unit × Int × Unit × Bool × List ((Int × Int)) × Int × Int) × (Unit × List (List ((Int × Int))) × (Int × Int)))) := fun ((n, all, begin, (), i, (), free, t28, t29, t30, t35, t36, t37), ((), out_r, (d_0, d_1))) =>
 (.test (decide (t37 < t36))
 (.test (decide ((0 ≤ t37) ∧ (t37 < ((List.length t35) : Int))))
 (.sub (t35[(Int.toNat t37)]?) fun z0 =>
 (.test free
 (.sub (F93 ((d_0, d_1), (z0.1, z0.2))) fun z1 =>
 (.test (decide ((0 = 0) ∧ ((List.length out_r) = (List.length out_r))))
 (.ret (Sum.inl ((n, (all, (begin, ((), (i, ((), ((! z1), (t28, (t29, (t30, (t35, (t36, (w64 (t37 + 1)))))))))))))), ((), (out_r, (d_0, d_1))))))
 .fail))
 (.test (decide ((0 = 0) ∧ ((List.length out_r) = (List.length out_r))))
 (.ret (Sum.inl ((n, (all, (begin, ((), (i, ((), (false, (t28, (t29, (t30, (t35, (t36, (w64 (t37 + 1)))))))))))))), ((), (out_r, (d_0, d_1))))))
 .fail)))
 .fail)
 (.test (decide ((0 = 0) ∧ ((List.length out_r) = (List.length out_r))))
 (.ret (Sum.inr ((n, (all, (begin, ((), (i, ((), (free, (t28, (t29, t30))))))))), ((), (out_r, (d_0, d_1))))))
 .fail))
noncomputable def F102_L7 (v : ((Int × List ((Int × Int)) × List ((Int × Int)) × Unit × Int × Unit × Bool × List ((Int × Int)) × Int × Int × List ((Int × Int)) × Int × Int) × (Unit × List (List ((Int × Int))) × (Int × Int)))) : Option ((Int × List ((Int × Int)) × List ((Int × Int)) × Unit × Int × Unit × Bool × List ((Int × Int)) × Int × Int) × (Unit × List (List ((Int × Int))) × (Int × Int))) := loopO (fun v => (F102_L7_step v).run) v

def F102_L3_sh : LSh := ⟨(fun ex => match ex with | .norm => [(0, none), (1, none), (2, none), (3, none), (28, none), (29, none), (30, none)] | .exit i => if i = 0 then [] else [] | .ret => []), [(0, (.one (.si .i64))), (1, (.one (.sl (.pair (.int .i64) (.int .i64)) false false))), (2, (.one (.sl (.pair (.int .i64) (.int .i64)) false false))), (3, (.one (.pf 0 0 0))), (28, (.one (.sl (.pair (.int .i64) (.int .i64)) false false))), (29, (.one (.si .i64))), (30, (.one (.si .i64)))], [(.rcd 0 [(.rw 1 0)]), (.row 0 (.list true (.pair (.int .i64) (.int .i64))))], [⟨(.exit 0), [], [(.rcd 0 [(.rw 1 0)]), (.row 0 (.list true (.pair (.int .i64) (.int .i64))))]⟩], [(0, 0, (.list true (.pair (.int .i64) (.int .i64))))], []⟩
noncomputable def F102_L3_step : ((Int × List ((Int × Int)) × List ((Int × Int)) × Unit × List ((Int × Int)) × Int × Int) × (Unit × List (List ((Int × Int))))) → T (((Int × List ((Int × Int)) × List ((Int × Int)) × Unit × List ((Int × Int)) × Int × Int) × (Unit × List (List ((Int × Int))))) ⊕ (Unit × (Unit × List (List ((Int × Int)))))) := fun ((n, all, begin, (), t28, t29, t30), ((), out_r)) =>
 (.test (decide (t30 < t29))
 (.test (decide ((0 ≤ t30) ∧ (t30 < ((List.length t28) : Int))))
 (.sub (t28[(Int.toNat t30)]?) fun z0 =>
 (.test (decide ((0 = 0) ∧ ((List.length out_r) = (List.length out_r))))
 (.sub (F102_L7 ((n, (all, (begin, ((), (t30, ((), (true, (t28, (t29, (t30, (begin, (((List.length begin) : Int), (0 : Int))))))))))))), ((), (out_r, (z0.1, z0.2))))) fun z1 =>
 (.test z1.1.2.2.2.2.2.2.1
 (.test (decide (0 ≤ (w64 (z1.1.2.2.2.2.1 + 1))))
 (.test (decide (((Int.toNat (w64 (z1.1.2.2.2.2.1 + 1))) ≤ (List.length z1.1.2.1)) ∧ ((List.length z1.1.2.1) ≤ (List.length z1.1.2.1))))
 (.test true
 (.test (decide ((2 * ((0 + (List.length z1.1.2.2.1)) * 17)) ≤ 140737488355328))
 (.test (decide (1 ≤ (List.length (List.set (List.replicate 1 ((0 : Int), (0 : Int))) 0 (z1.2.2.2.1, z1.2.2.2.2)))))
 (.test (decide ((0 + (0 + (List.length z1.1.2.2.1))) ≤ (List.length ((win (List.replicate 0 ((0 : Int), (0 : Int))) 0 0) ++ z1.1.2.2.1))))
 (.test (decide ((2 * (((0 + (List.length z1.1.2.2.1)) + (List.length (win (List.set (List.replicate 1 ((0 : Int), (0 : Int))) 0 (z1.2.2.2.1, z1.2.2.2.2)) 0 1))) * 17)) ≤ 140737488355328))
 (.test (decide ((0 + ((0 + (List.length z1.1.2.2.1)) + (List.length (win (List.set (List.replicate 1 ((0 : Int), (0 : Int))) 0 (z1.2.2.2.1, z1.2.2.2.2)) 0 1)))) ≤ (List.length ((win ((win (List.replicate 0 ((0 : Int), (0 : Int))) 0 0) ++ z1.1.2.2.1) 0 (0 + (List.length z1.1.2.2.1))) ++ (win (List.set (List.replicate 1 ((0 : Int), (0 : Int))) 0 (z1.2.2.2.1, z1.2.2.2.2)) 0 1)))))
 (.test (decide ((0 = 0) ∧ ((List.length z1.2.2.1) = (List.length z1.2.2.1))))
 (.sub (F83 ((z1.1.1, ((win z1.1.2.1 (Int.toNat (w64 (z1.1.2.2.2.2.1 + 1))) ((List.length z1.1.2.1) - (Int.toNat (w64 (z1.1.2.2.2.2.1 + 1))))), ((win ((win ((win (List.replicate 0 ((0 : Int), (0 : Int))) 0 0) ++ z1.1.2.2.1) 0 (0 + (List.length z1.1.2.2.1))) ++ (win (List.set (List.replicate 1 ((0 : Int), (0 : Int))) 0 (z1.2.2.2.1, z1.2.2.2.2)) 0 1)) 0 ((0 + (List.length z1.1.2.2.1)) + (List.length (win (List.set (List.replicate 1 ((0 : Int), (0 : Int))) 0 (z1.2.2.2.1, z1.2.2.2.2)) 0 1)))), ()))), ((), z1.2.2.1))) fun z2 =>
 (.test (decide ((0 = 0) ∧ ((List.length z2.2.2) = (List.length z2.2.2))))
 (.ret (Sum.inl ((z1.1.1, (z1.1.2.1, (z1.1.2.2.1, ((), (z1.1.2.2.2.2.2.2.2.1, (z1.1.2.2.2.2.2.2.2.2.1, (w64 (z1.1.2.2.2.2.2.2.2.2.2 + 1)))))))), ((), z2.2.2))))
 .fail))
 .fail)
 .fail)
 .fail)
 .fail)
 .fail)
 .fail)
 .fail)
 .fail)
 .fail)
 (.test (decide ((0 = 0) ∧ ((List.length z1.2.2.1) = (List.length z1.2.2.1))))
 (.ret (Sum.inl ((z1.1.1, (z1.1.2.1, (z1.1.2.2.1, ((), (z1.1.2.2.2.2.2.2.2.1, (z1.1.2.2.2.2.2.2.2.2.1, (w64 (z1.1.2.2.2.2.2.2.2.2.2 + 1)))))))), ((), z1.2.2.1))))
 .fail)))
 .fail))
 .fail)
 (.test (decide ((0 = 0) ∧ ((List.length out_r) = (List.length out_r))))
 (.ret (Sum.inr ((), ((), out_r))))
 .fail))
noncomputable def F102_L3 (v : ((Int × List ((Int × Int)) × List ((Int × Int)) × Unit × List ((Int × Int)) × Int × Int) × (Unit × List (List ((Int × Int)))))) : Option (Unit × (Unit × List (List ((Int × Int))))) := loopO (fun v => (F102_L3_step v).run) v

def F102_fo : List FO := [⟨[], [(.rcd 0 [(.rw 1 0)]), (.row 0 (.list true (.pair (.int .i64) (.int .i64))))]⟩]
noncomputable def F102_t : ((Int × List ((Int × Int)) × List ((Int × Int)) × Unit) × Unit) → T (Unit × (Unit × List (List ((Int × Int))))) := fun ((n, all, begin, ()), ()) =>
 (.test (((List.length begin) : Int) == (w64 (n - 3)))
 (.test true
 (.test (decide ((2 * ((0 + (List.length begin)) * 17)) ≤ 140737488355328))
 (.test (decide ((0 + (0 + (List.length begin))) ≤ (List.length ((win (List.replicate 0 ((0 : Int), (0 : Int))) 0 0) ++ begin))))
 (.test (decide (1 ≤ (List.length (List.set (List.replicate 1 ([] : List (Int × Int))) 0 (win ((win (List.replicate 0 ((0 : Int), (0 : Int))) 0 0) ++ begin) 0 (0 + (List.length begin)))))))
 (.test (decide (¬ (((List.length (win (List.set (List.replicate 1 ([] : List (Int × Int))) 0 (win ((win (List.replicate 0 ((0 : Int), (0 : Int))) 0 0) ++ begin) 0 (0 + (List.length begin)))) 0 1)) = 0) ∧ (0 ≠ 0))))
 (.test (decide ((2 * ((0 + (List.length (win (List.set (List.replicate 1 ([] : List (Int × Int))) 0 (win ((win (List.replicate 0 ((0 : Int), (0 : Int))) 0 0) ++ begin) 0 (0 + (List.length begin)))) 0 1))) * 25)) ≤ 140737488355328))
 (.test (decide ((0 = 0) ∧ ((0 + (List.length (win (List.set (List.replicate 1 ([] : List (Int × Int))) 0 (win ((win (List.replicate 0 ((0 : Int), (0 : Int))) 0 0) ++ begin) 0 (0 + (List.length begin)))) 0 1))) = (List.length (([] : List (List (Int × Int))) ++ (win (List.set (List.replicate 1 ([] : List (Int × Int))) 0 (win ((win (List.replicate 0 ((0 : Int), (0 : Int))) 0 0) ++ begin) 0 (0 + (List.length begin)))) 0 1))))))
 (.ret ((), ((), (([] : List (List (Int × Int))) ++ (win (List.set (List.replicate 1 ([] : List (Int × Int))) 0 (win ((win (List.replicate 0 ((0 : Int), (0 : Int))) 0 0) ++ begin) 0 (0 + (List.length begin)))) 0 1)))))
 .fail)
 .fail)
 .fail)
 .fail)
 .fail)
 .fail)
 .fail)
 (.test true
 (.sub (F102_L3 ((n, (all, (begin, ((), (all, (((List.length all) : Int), (0 : Int))))))), ((), ([] : List (List (Int × Int)))))) fun z0 =>
 (.test (decide ((0 = 0) ∧ ((List.length z0.2.2) = (List.length z0.2.2))))
 (.ret ((), ((), z0.2.2)))
 .fail))
 .fail))
noncomputable def F102 (v : ((Int × List ((Int × Int)) × List ((Int × Int)) × Unit) × Unit)) : Option (Unit × (Unit × List (List ((Int × Int))))) := (F102_t v).run
noncomputable def F102_E : TEnv := ((E0.add1 n_F93 F93_sh F93_fo F93).add1 n_F102 F83_sh F83_fo F83)
theorem F102_Eok : (F102_E).OK := ((E0ok.add1 F93_ok).add1 F83_ok)
noncomputable def F102_told : Nat → Option SealT := fun id => if id = 7 then some (LSh.told F102_L7_sh 1 (F102_L7_step)) else if id = 3 then some (LSh.told F102_L3_sh 1 (F102_L3_step)) else none
theorem F102_L7_ok : ToldOK Tryz.prog 1 (loopAt (bodyOf fn_F102) [0, 0]) (LSh.told F102_L7_sh 1 (F102_L7_step)) :=
  loop_ok (E := F102_E) (F102_Eok) (told := F102_told) (l := F102_L7_sh) (step := F102_L7_step) (loopsOK_of (ls := []) (by kernel_rfl) trivial) (by kernel_rfl) (fun v => by kernel_rfl)
theorem F102_L3_ok : ToldOK Tryz.prog 1 (loopAt (bodyOf fn_F102) [0]) (LSh.told F102_L3_sh 1 (F102_L3_step)) :=
  loop_ok (E := F102_E) (F102_Eok) (told := F102_told) (l := F102_L3_sh) (step := F102_L3_step) (loopsOK_of (ls := [loopAt (bodyOf fn_F102) [0, 0]]) (by kernel_rfl) ⟨.inr ⟨_, by kernel_rfl, F102_L7_ok⟩, trivial⟩) (by kernel_rfl) (fun v => by kernel_rfl)
theorem F102_ok : FOK Tryz.prog n_F102 F102_sh F102_fo F102 :=
  fn_ok (E := F102_E) (F102_Eok) (told := F102_told) (fl := []) (c := bodyOf fn_F102) (s := F102_sh) (l := F102_fo) (tree := F102_t) fnat_F102 (by kernel_rfl) (by kernel_rfl) (by kernel_rfl) (loopsOK_of (ls := [loopAt (bodyOf fn_F102) [0]]) (by kernel_rfl) ⟨.inr ⟨_, by kernel_rfl, F102_L3_ok⟩, trivial⟩) (fun v => by kernel_rfl)

theorem F102_free (n : Int) (all b : List Dg) (i t29 t30 : Int) (t28 : List Dg) (d : Dg) (out : List (List Dg)) (hb : b.length < 1000000) :
    F102_L7 ((n, (all, (b, ((), (i, ((), (true, (t28, (t29, (t30, (b, ((b.length : Int), (0 : Int))))))))))))), ((), (out, d))) = some ((n, (all, (b, ((), (i, ((), (freeD d b, (t28, (t29, t30))))))))), ((), (out, d))) := by
  obtain ⟨d0, d1⟩ := d
  have key : ∀ m k (f : Bool), k + m = b.length → F102_L7 ((n, (all, (b, ((), (i, ((), (f, (t28, (t29, (t30, (b, ((b.length : Int), (k : Int))))))))))))), ((), (out, (d0, d1)))) = some ((n, (all, (b, ((), (i, ((), ((f && !(b.drop k).any (crossD (d0, d1))), (t28, (t29, t30))))))))), ((), (out, (d0, d1)))) := by
    intro m
    induction m with
    | zero =>
      intro k f hk
      have : k = b.length := by omega
      subst this
      simp only [F102_L7]
      exact loopO_done (by simp [F102_L7_step, T.run])
    | succ m ih =>
      intro k f hk
      have hlt : k < b.length := by omega
      have c0 : (k : Int) < (b.length : Int) := by omega
      have c1 : (0 : Int) ≤ (k : Int) ∧ (k : Int) < (b.length : Int) := by omega
      have w1 : w64 ((k : Int) + 1) = ((k + 1 : Nat) : Int) := by rw [w64_id (by omega) (by omega)]; omega
      rw [drop_gD hlt, List.any_cons]
      have ih := ih (k + 1) (f && !crossD (d0, d1) (gD b k)) (by omega)
      simp only [F102_L7] at ih ⊢
      have st : (F102_L7_step ((n, (all, (b, ((), (i, ((), (f, (t28, (t29, (t30, (b, ((b.length : Int), (k : Int))))))))))))), ((), (out, (d0, d1))))).run =
          some (.inl ((n, (all, (b, ((), (i, ((), ((f && !crossD (d0, d1) (gD b k)), (t28, (t29, (t30, (b, ((b.length : Int), ((k + 1 : Nat) : Int))))))))))))), ((), (out, (d0, d1))))) := by
        cases f with
        | true => simp only [F102_L7_step, T.run, c0, c1, decide_true, if_true, and_self, true_and, Int.toNat_natCast, gD_some hlt, Option.bind_some, F93_eq, w1, Bool.true_and]
        | false => simp only [F102_L7_step, T.run, c0, c1, decide_true, if_true, and_self, true_and, Int.toNat_natCast, gD_some hlt, Option.bind_some, w1, Bool.false_and, Bool.false_eq_true, if_false]
      rw [loopO_next st, ih]
      congr 2
      cases f <;> cases crossD (d0, d1) (gD b k) <;> simp
  have := key b.length 0 true (by omega)
  simpa [freeD] using this
theorem F102_loop (n : Nat) (t b : List Dg) (hn : 3 ≤ n ∧ n ≤ 9) (ht : t.length ≤ 27) (hb : b.length < 50) :
    ∀ (m i : Nat) (out : List (List Dg)), i + m = t.length → out.length + 2 ^ m ≤ 1000000000 →
    F102_L3 (((n : Int), (t, (b, ((), (t, ((t.length : Int), (i : Int))))))), ((), out)) = some ((), ((), out ++ goL (n - 3) (t.drop i) b))
  | 0, i, out, hi, ho => by
    have : i = t.length := by omega
    subst this
    rw [List.drop_length]
    simp only [F102_L3, goL, List.append_nil]
    exact loopO_done (by simp [F102_L3_step, T.run])
  | m + 1, i, out, hi, ho => by
    have hlt : i < t.length := by omega
    have c0 : (i : Int) < (t.length : Int) := by omega
    have c2 : (0 : Int) ≤ (i : Int) ∧ (i : Int) < (t.length : Int) := by omega
    have w1 : w64 ((i : Int) + 1) = ((i + 1 : Nat) : Int) := by rw [w64_id (by omega) (by omega)]; omega
    have hp : 2 ^ (m + 1) = 2 ^ m + 2 ^ m := by rw [Nat.pow_succ]; omega
    have hp0 : 1 ≤ 2 ^ m := Nat.one_le_two_pow
    have hm : m = t.length - (i + 1) := by omega
    have hfree := F102_free (n : Int) t b (i : Int) (t.length : Int) (i : Int) t (gD t i) out (by omega)
    rw [drop_gD hlt, goL_cons]
    cases hf : freeD (gD t i) b with
    | false =>
      have ih := F102_loop n t b hn ht hb m (i + 1) out (by omega) (by omega)
      rw [hf] at hfree
      simp only [Bool.false_eq_true, if_false, List.nil_append]
      simp only [F102_L3] at ih ⊢
      rw [← ih]
      refine loopO_next ?_
      simp only [F102_L3_step, T.run, c0, c2, decide_true, if_true, true_and, and_self, Int.toNat_natCast, gD_some hlt, Option.bind_some, hfree, Bool.false_eq_true, if_false, w1]
    | true =>
      have hll := look_pow (t := t) (b := b ++ [gD t i]) (i := i) (k := n - 3) hm
      have hrec : F83 (((n : Int), (t.drop (i + 1), (b ++ [gD t i], ()))), ((), out)) = some ((), ((), out ++ lookL (n - 3) (t.drop (i + 1)) (b ++ [gD t i]))) :=
        F83_eq n hn recLim (t.drop (i + 1)) (b ++ [gD t i]) out (by rw [List.length_drop]; omega) (by rw [List.length_drop]; unfold recLim; omega) (by rw [List.length_drop, List.length_append, List.length_cons, List.length_nil]; omega) (by rw [List.length_drop, ← hm]; omega)
      have ih := F102_loop n t b hn ht hb m (i + 1) (out ++ lookL (n - 3) (t.drop (i + 1)) (b ++ [gD t i])) (by omega) (by rw [List.length_append]; omega)
      rw [hf] at hfree
      simp only [if_true]
      rw [← List.append_assoc]
      simp only [F102_L3] at ih ⊢
      rw [← ih]
      refine loopO_next ?_
      have c1 : (0 : Int) ≤ ((i + 1 : Nat) : Int) := by omega
      have c3 : i + 1 ≤ t.length ∧ t.length ≤ t.length := by omega
      have c4 : 2 * ((0 + b.length) * 17) ≤ 140737488355328 := by omega
      have c5 : 2 * ((0 + b.length + 1) * 17) ≤ 140737488355328 := by omega
      have hw0 : win ([] : List Dg) 0 0 = [] := rfl
      have hw1 : win b 0 (0 + b.length) = b := by rw [Nat.zero_add]; exact win_all _
      have hl1 : (b ++ [gD t i]).length = 0 + b.length + 1 := by simp
      have hw2 : win (b ++ [gD t i]) 0 (0 + b.length + 1) = b ++ [gD t i] := by rw [← hl1]; exact win_all _
      have hw3 : win t (i + 1) (t.length - (i + 1)) = t.drop (i + 1) := by unfold win; rw [List.take_of_length_le (by rw [List.length_drop]; omega)]
      simp only [F102_L3_step, T.run, c0, c1, c2, c3, c4, c5, decide_true, if_true, true_and, and_self, Int.toNat_natCast, gD_some hlt, Option.bind_some, hfree, w1, List.replicate_zero, hw0, List.nil_append, hw1, win_one, List.length_cons, List.length_nil, hw2, hw3, hrec, List.length_set, List.length_replicate, Nat.le_refl, List.length_append]
      simp
theorem F102_eq (n : Nat) (hn : 3 ≤ n ∧ n ≤ 9) (t : List Dg) (ht : t.length ≤ 27) : F102 (((n : Int), (t, (([] : List Dg), ()))), ()) = some ((), ((), lookL (n - 3) t [])) := by
  have w0 : w64 ((n : Int) - 3) = ((n - 3 : Nat) : Int) := by rw [w64_id (by omega) (by omega)]; omega
  simp only [F102, F102_t, T.run, w0]
  by_cases hl : n = 3
  · subst hl
    have hw0 : win ([] : List Dg) 0 0 = [] := rfl
    have hone : win (List.set (List.replicate 1 ([] : List Dg)) 0 ([] : List Dg)) 0 1 = [[]] := rfl
    have hw9 : win ([[]] : List (List Dg)) 0 1 = [[]] := rfl
    simp [lookL, hw0, hw9]
  · have e : ((([] : List Dg).length : Int) == ((n - 3 : Nat) : Int)) = false := by simp; omega
    unfold lookL
    have hne : ¬ ([] : List Dg).length = n - 3 := by simp; omega
    rw [if_neg hne]
    have hp : 2 ^ t.length ≤ 2 ^ 27 := Nat.pow_le_pow_right (by omega) ht
    have h27 : (2 : Nat) ^ 27 = 134217728 := by decide
    have h3 := F102_loop n t [] hn ht (by simp) t.length 0 [] (by omega) (by simp only [List.length_nil]; omega)
    rw [List.drop_zero, Int.natCast_zero, List.nil_append] at h3
    simp only [e, Bool.false_eq_true, if_false, decide_true, if_true, h3, Option.bind_some, true_and]


def F109_sh : FSh := ⟨[(.one (.si .i64))], []⟩

def F109_L6_sh : LSh := ⟨(fun ex => match ex with | .norm => [(0, none), (3, none), (4, none), (5, none)] | .exit i => if i = 2 then [(0, none), (3, none), (4, none)] else if i = 1 then [(0, none), (3, none), (4, none)] else if i = 0 then [(0, none), (3, none)] else [] | .ret => [(2, none)]), [(0, (.one (.si .i64))), (3, (.one (.rw 0 0))), (4, (.one (.si .i64))), (5, (.one (.si .i64)))], [(.row 0 (.pair (.int .i64) (.int .i64)))], [⟨(.exit 2), [(0, (.one (.si .i64))), (3, (.one (.rw 0 0))), (4, (.one (.si .i64)))], [(.row 0 (.pair (.int .i64) (.int .i64)))]⟩], [], []⟩
noncomputable def F109_L6_step : ((Int × Unit × Int × Int) × List ((Int × Int))) → T (((Int × Unit × Int × Int) × List ((Int × Int))) ⊕ ((Int × Unit × Int) × List ((Int × Int)))) := fun ((n, (), a, b), all) =>
 (.test (decide (b < n))
 (.sub (F75 (n, (a, b))) fun z0 =>
 (.test z0
 (.test (decide (1 ≤ (List.length (List.set (List.replicate 1 ((0 : Int), (0 : Int))) 0 (a, b)))))
 (.test (decide ((0 + (List.length all)) ≤ (List.length all)))
 (.test (decide ((2 * (((List.length all) + (List.length (win (List.set (List.replicate 1 ((0 : Int), (0 : Int))) 0 (a, b)) 0 1))) * 17)) ≤ 140737488355328))
 (.test (decide ((0 = 0) ∧ (((List.length all) + (List.length (win (List.set (List.replicate 1 ((0 : Int), (0 : Int))) 0 (a, b)) 0 1))) = (List.length ((win all 0 (List.length all)) ++ (win (List.set (List.replicate 1 ((0 : Int), (0 : Int))) 0 (a, b)) 0 1))))))
 (.ret (Sum.inl ((n, ((), (a, (w64 (b + 1))))), ((win all 0 (List.length all)) ++ (win (List.set (List.replicate 1 ((0 : Int), (0 : Int))) 0 (a, b)) 0 1)))))
 .fail)
 .fail)
 .fail)
 .fail)
 (.test (decide ((0 = 0) ∧ ((List.length all) = (List.length all))))
 (.ret (Sum.inl ((n, ((), (a, (w64 (b + 1))))), all)))
 .fail)))
 (.test (decide ((0 = 0) ∧ ((List.length all) = (List.length all))))
 (.ret (Sum.inr ((n, ((), a)), all)))
 .fail))
noncomputable def F109_L6 (v : ((Int × Unit × Int × Int) × List ((Int × Int)))) : Option ((Int × Unit × Int) × List ((Int × Int))) := loopO (fun v => (F109_L6_step v).run) v

def F109_L3_sh : LSh := ⟨(fun ex => match ex with | .norm => [(0, none), (3, none), (4, none)] | .exit i => if i = 0 then [(0, none), (3, none)] else [] | .ret => [(2, none)]), [(0, (.one (.si .i64))), (3, (.one (.rw 0 0))), (4, (.one (.si .i64)))], [(.row 0 (.pair (.int .i64) (.int .i64)))], [⟨(.exit 0), [(0, (.one (.si .i64))), (3, (.one (.rw 0 0)))], [(.row 0 (.pair (.int .i64) (.int .i64)))]⟩], [], []⟩
noncomputable def F109_L3_step : ((Int × Unit × Int) × List ((Int × Int))) → T (((Int × Unit × Int) × List ((Int × Int))) ⊕ ((Int × Unit) × List ((Int × Int)))) := fun ((n, (), a), all) =>
 (.test (decide (a < n))
 (.test (decide ((0 = 0) ∧ ((List.length all) = (List.length all))))
 (.sub (F109_L6 ((n, ((), (a, (w64 (a + 2))))), all)) fun z0 =>
 (.test (decide ((0 = 0) ∧ ((List.length z0.2) = (List.length z0.2))))
 (.ret (Sum.inl ((z0.1.1, ((), (w64 (z0.1.2.2 + 1)))), z0.2)))
 .fail))
 .fail)
 (.test (decide ((0 = 0) ∧ ((List.length all) = (List.length all))))
 (.ret (Sum.inr ((n, ()), all)))
 .fail))
noncomputable def F109_L3 (v : ((Int × Unit × Int) × List ((Int × Int)))) : Option ((Int × Unit) × List ((Int × Int))) := loopO (fun v => (F109_L3_step v).run) v

def F109_fo : List FO := [⟨[(.one (.rw 0 0))], [(.row 0 (.list true (.pair (.int .i64) (.int .i64))))]⟩]
noncomputable def F109_t : Int → T (Unit × List (List ((Int × Int)))) := fun n =>
 (.test true
 (.sub (F109_L3 ((n, ((), (0 : Int))), ([] : List (Int × Int)))) fun z0 =>
 (.test (decide ((0 + (List.length z0.2)) ≤ (List.length z0.2)))
 (.sub (F102 ((z0.1.1, ((win z0.2 0 (List.length z0.2)), (([] : List (Int × Int)), ()))), ())) fun z1 =>
 (.test (decide ((0 = 0) ∧ ((List.length z1.2.2) = (List.length z1.2.2))))
 (.ret ((), z1.2.2))
 .fail))
 .fail))
 .fail)
noncomputable def F109 (v : Int) : Option (Unit × List (List ((Int × Int)))) := (F109_t v).run
noncomputable def F109_E : TEnv := ((E0.add1 n_F75 F75_sh F75_fo F75).add1 n_F102 F102_sh F102_fo F102)
theorem F109_Eok : (F109_E).OK := ((E0ok.add1 F75_ok).add1 F102_ok)
noncomputable def F109_told : Nat → Option SealT := fun id => if id = 6 then some (LSh.told F109_L6_sh 0 (F109_L6_step)) else if id = 3 then some (LSh.told F109_L3_sh 0 (F109_L3_step)) else none
theorem F109_L6_ok : ToldOK Tryz.prog 0 (loopAt (bodyOf fn_F109) [0, 0]) (LSh.told F109_L6_sh 0 (F109_L6_step)) :=
  loop_ok (E := F109_E) (F109_Eok) (told := F109_told) (l := F109_L6_sh) (step := F109_L6_step) (loopsOK_of (ls := []) (by kernel_rfl) trivial) (by kernel_rfl) (fun v => by kernel_rfl)
theorem F109_L3_ok : ToldOK Tryz.prog 0 (loopAt (bodyOf fn_F109) [0]) (LSh.told F109_L3_sh 0 (F109_L3_step)) :=
  loop_ok (E := F109_E) (F109_Eok) (told := F109_told) (l := F109_L3_sh) (step := F109_L3_step) (loopsOK_of (ls := [loopAt (bodyOf fn_F109) [0, 0]]) (by kernel_rfl) ⟨.inr ⟨_, by kernel_rfl, F109_L6_ok⟩, trivial⟩) (by kernel_rfl) (fun v => by kernel_rfl)
theorem F109_ok : FOK Tryz.prog n_F109 F109_sh F109_fo F109 :=
  fn_ok (E := F109_E) (F109_Eok) (told := F109_told) (fl := []) (c := bodyOf fn_F109) (s := F109_sh) (l := F109_fo) (tree := F109_t) fnat_F109 (by kernel_rfl) (by kernel_rfl) (by kernel_rfl) (loopsOK_of (ls := [loopAt (bodyOf fn_F109) [0]]) (by kernel_rfl) ⟨.inr ⟨_, by kernel_rfl, F109_L3_ok⟩, trivial⟩) (fun v => by kernel_rfl)

theorem F109_row (n a : Nat) (hn : 3 ≤ n ∧ n ≤ 9) : ∀ (m b : Nat) (out : List Dg), b + m = n → out.length + m ≤ 1000000 →
    F109_L6 (((n : Int), ((), ((a : Int), (b : Int)))), out) = some (((n : Int), ((), (a : Int))), out ++ rowD n a b)
  | 0, b, out, hb, ho => by
    have : b = n := by omega
    subst this
    rw [rowD_end, List.append_nil]
    simp only [F109_L6]
    exact loopO_done (by simp [F109_L6_step, T.run])
  | m + 1, b, out, hb, ho => by
    have c0 : (b : Int) < (n : Int) := by omega
    have w1 : w64 ((b : Int) + 1) = ((b + 1 : Nat) : Int) := by rw [w64_id (by omega) (by omega)]; omega
    have c1 : 2 * ((out.length + 1) * 17) ≤ 140737488355328 := by omega
    have hd := F75_eq (n : Int) ((a : Int), (b : Int)) (by omega) (by omega)
    rw [rowD_step (by omega : b < n)]
    cases hg : inDg n ((a : Int), (b : Int)) with
    | true =>
      have ih := F109_row n a hn m (b + 1) (out ++ [((a : Int), (b : Int))]) (by omega) (by simp; omega)
      simp only [F109_L6] at ih ⊢
      rw [hg] at hd
      have st : (F109_L6_step (((n : Int), ((), ((a : Int), (b : Int)))), out)).run = some (.inl (((n : Int), ((), ((a : Int), ((b + 1 : Nat) : Int)))), out ++ [((a : Int), (b : Int))])) := by
        simp only [F109_L6_step, T.run, c0, hd, decide_true, if_true, Option.bind_some, win_one, win_all, List.length_cons, List.length_nil, Nat.zero_add, c1, w1, List.length_set, List.length_replicate, Nat.le_refl, List.length_append, true_and]
      rw [loopO_next st, ih]
      simp
    | false =>
      have ih := F109_row n a hn m (b + 1) out (by omega) (by omega)
      simp only [F109_L6] at ih ⊢
      rw [hg] at hd
      have st : (F109_L6_step (((n : Int), ((), ((a : Int), (b : Int)))), out)).run = some (.inl (((n : Int), ((), ((a : Int), ((b + 1 : Nat) : Int)))), out)) := by
        simp only [F109_L6_step, T.run, c0, hd, decide_true, if_true, Option.bind_some, Bool.false_eq_true, if_false, w1, true_and]
      rw [loopO_next st, ih]
      simp
theorem F109_rows (n : Nat) (hn : 3 ≤ n ∧ n ≤ 9) : ∀ (m a : Nat) (out : List Dg), a + m = n → out.length ≤ 1000 * a →
    F109_L3 (((n : Int), ((), (a : Int))), out) = some (((n : Int), ()), out ++ rowsD n a)
  | 0, a, out, ha, ho => by
    have : a = n := by omega
    subst this
    rw [rowsD_end, List.append_nil]
    simp only [F109_L3]
    exact loopO_done (by simp [F109_L3_step, T.run])
  | m + 1, a, out, ha, ho => by
    have c0 : (a : Int) < (n : Int) := by omega
    have w1 : w64 ((a : Int) + 1) = ((a + 1 : Nat) : Int) := by rw [w64_id (by omega) (by omega)]; omega
    have w2 : w64 ((a : Int) + 2) = ((a + 2 : Nat) : Int) := by rw [w64_id (by omega) (by omega)]; omega
    have hr : F109_L6 (((n : Int), ((), ((a : Int), ((a + 2 : Nat) : Int)))), out) = some (((n : Int), ((), (a : Int))), out ++ rowD n a 0) := by
      by_cases h : a + 2 ≤ n
      · have hr := F109_row n a hn (n - (a + 2)) (a + 2) out (by omega) (by omega)
        rwa [← rowD_front n a (a + 2) (by omega)] at hr
      · rw [rowD_front n a (a + 1) (by omega), show a + 1 = n by omega, rowD_end, List.append_nil]
        simp only [F109_L6]
        have : ¬ (((a + 2 : Nat) : Int) < (n : Int)) := by omega
        exact loopO_done (by simp only [F109_L6_step, T.run, this]; simp)
    have hl := rowD_len n a 0
    have ih := F109_rows n hn m (a + 1) (out ++ rowD n a 0) (by omega) (by rw [List.length_append]; omega)
    rw [rowsD_step (by omega : a < n), ← List.append_assoc]
    simp only [F109_L3] at ih ⊢
    rw [← ih]
    refine loopO_next ?_
    simp only [F109_L3_step, T.run, c0, decide_true, if_true, true_and, w1, w2, hr, Option.bind_some]
theorem F109_eq (n : Nat) (hn : 3 ≤ n ∧ n ≤ 9) : F109 (n : Int) = some ((), allT n) := by
  have h := F109_rows n hn n 0 [] (by omega) (by simp)
  have e : rowsD n 0 = dgL n := by unfold rowsD; rw [List.drop_zero, dgL_rows]
  rw [e, List.nil_append, Int.natCast_zero] at h
  simp only [F109, F109_t, T.run, decide_true, if_true, h, Option.bind_some, Nat.zero_add, Nat.le_refl, win_all, F102_eq n hn (dgL n) (dgL_len n hn.2)]
  rfl


def F76_sh : FSh := ⟨[(.one (.si .i64)), (.one (.sl (.pair (.int .i64) (.int .i64)) false false))], []⟩

def F76_L3_sh : LSh := ⟨(fun ex => match ex with | .norm => [(1, none), (5, none), (12, none), (13, none)] | .exit i => if i = 0 then [(1, none), (5, none)] else [] | .ret => [(4, none)]), [(1, (.one (.sl (.pair (.int .i64) (.int .i64)) false false))), (5, (.one (.rw 0 0))), (12, (.one (.si .i64))), (13, (.one (.si .i64)))], [(.row 0 (.int .i64))], [⟨(.exit 0), [(1, (.one (.sl (.pair (.int .i64) (.int .i64)) false false))), (5, (.one (.rw 0 0)))], [(.row 0 (.int .i64))]⟩], [], []⟩
noncomputable def F76_L3_step : ((List ((Int × Int)) × Unit × Int × Int) × List (Int)) → T (((List ((Int × Int)) × Unit × Int × Int) × List (Int)) ⊕ ((List ((Int × Int)) × Unit) × List (Int))) := fun ((ds, (), t12, t13), out) =>
 (.test (decide (t13 < t12))
 (.test (decide ((0 ≤ t13) ∧ (t13 < ((List.length out) : Int))))
 (.sub (out[(0 + (Int.toNat t13))]?) fun z0 =>
 (.test (decide ((0 = 0) ∧ ((List.length out) = (List.length (List.set out (0 + (Int.toNat t13)) (1 : Int))))))
 (.ret (Sum.inl ((ds, ((), (t12, (w64 (t13 + 1))))), (List.set out (0 + (Int.toNat t13)) (1 : Int)))))
 .fail))
 .fail)
 (.test (decide ((0 = 0) ∧ ((List.length out) = (List.length out))))
 (.ret (Sum.inr ((ds, ()), out)))
 .fail))
noncomputable def F76_L3 (v : ((List ((Int × Int)) × Unit × Int × Int) × List (Int))) : Option ((List ((Int × Int)) × Unit) × List (Int)) := loopO (fun v => (F76_L3_step v).run) v

def F76_L8_sh : LSh := ⟨(fun ex => match ex with | .norm => [(5, none), (20, none), (21, none), (22, none)] | .exit i => if i = 2 then [(5, none)] else [] | .ret => [(4, none)]), [(5, (.one (.rw 0 0))), (20, (.one (.sl (.pair (.int .i64) (.int .i64)) false false))), (21, (.one (.si .i64))), (22, (.one (.si .i64)))], [(.row 0 (.int .i64))], [⟨(.exit 2), [(5, (.one (.rw 0 0)))], [(.row 0 (.int .i64))]⟩], [], []⟩
noncomputable def F76_L8_step : ((Unit × List ((Int × Int)) × Int × Int) × List (Int)) → T (((Unit × List ((Int × Int)) × Int × Int) × List (Int)) ⊕ (Unit × List (Int))) := fun (((), t20, t21, t22), out) =>
 (.test (decide (t22 < t21))
 (.test (decide ((0 ≤ t22) ∧ (t22 < ((List.length t20) : Int))))
 (.sub (t20[(Int.toNat t22)]?) fun z0 =>
 (.test (decide ((0 ≤ z0.1) ∧ (z0.1 < ((List.length out) : Int))))
 (.sub (out[(0 + (Int.toNat z0.1))]?) fun z1 =>
 (.test (decide ((0 ≤ z0.1) ∧ (z0.1 < ((List.length out) : Int))))
 (.sub (out[(0 + (Int.toNat z0.1))]?) fun z2 =>
 (.test (decide ((0 ≤ z0.2) ∧ (z0.2 < ((List.length out) : Int))))
 (.sub ((List.set out (0 + (Int.toNat z0.1)) (w64 (z1 + 1)))[(0 + (Int.toNat z0.2))]?) fun z3 =>
 (.test (decide ((0 ≤ z0.2) ∧ (z0.2 < ((List.length out) : Int))))
 (.sub ((List.set out (0 + (Int.toNat z0.1)) (w64 (z1 + 1)))[(0 + (Int.toNat z0.2))]?) fun z4 =>
 (.test (decide ((0 = 0) ∧ ((List.length out) = (List.length (List.set (List.set out (0 + (Int.toNat z0.1)) (w64 (z1 + 1))) (0 + (Int.toNat z0.2)) (w64 (z3 + 1)))))))
 (.ret (Sum.inl (((), (t20, (t21, (w64 (t22 + 1))))), (List.set (List.set out (0 + (Int.toNat z0.1)) (w64 (z1 + 1))) (0 + (Int.toNat z0.2)) (w64 (z3 + 1))))))
 .fail))
 .fail))
 .fail))
 .fail))
 .fail))
 .fail)
 (.test (decide ((0 = 0) ∧ ((List.length out) = (List.length out))))
 (.ret (Sum.inr ((), out)))
 .fail))
noncomputable def F76_L8 (v : ((Unit × List ((Int × Int)) × Int × Int) × List (Int))) : Option (Unit × List (Int)) := loopO (fun v => (F76_L8_step v).run) v

def F76_fo : List FO := [⟨[(.one (.rw 0 0))], [(.row 0 (.int .i64))]⟩]
noncomputable def F76_t : (Int × List ((Int × Int))) → T (Unit × List (Int)) := fun (n, ds) =>
 (.test (decide ((0 ≤ n) ∧ ((n ≤ n) ∧ (((Int.toNat n) * 9) ≤ 140737488355328))))
 (.test (decide ((0 = 0) ∧ ((Int.toNat n) = (List.length (List.replicate (Int.toNat n) (0 : Int))))))
 (.sub (F76_L3 ((ds, ((), (((Int.toNat n) : Int), (0 : Int)))), (List.replicate (Int.toNat n) (0 : Int)))) fun z0 =>
 (.test (decide ((0 = 0) ∧ ((List.length z0.2) = (List.length z0.2))))
 (.sub (F76_L8 (((), (z0.1.1, (((List.length z0.1.1) : Int), (0 : Int)))), z0.2)) fun z1 =>
 (.test (decide ((0 = 0) ∧ ((List.length z1.2) = (List.length z1.2))))
 (.ret ((), z1.2))
 .fail))
 .fail))
 .fail)
 .fail)
noncomputable def F76 (v : (Int × List ((Int × Int)))) : Option (Unit × List (Int)) := (F76_t v).run
noncomputable def F76_E : TEnv := E0
theorem F76_Eok : (F76_E).OK := E0ok
noncomputable def F76_told : Nat → Option SealT := fun id => if id = 3 then some (LSh.told F76_L3_sh 0 (F76_L3_step)) else if id = 8 then some (LSh.told F76_L8_sh 0 (F76_L8_step)) else none
theorem F76_L3_ok : ToldOK Tryz.prog 0 (loopAt (bodyOf fn_F76) [0]) (LSh.told F76_L3_sh 0 (F76_L3_step)) :=
  loop_ok (E := F76_E) (F76_Eok) (told := F76_told) (l := F76_L3_sh) (step := F76_L3_step) (loopsOK_of (ls := []) (by kernel_rfl) trivial) (by kernel_rfl) (fun v => by kernel_rfl)
theorem F76_L8_ok : ToldOK Tryz.prog 0 (loopAt (bodyOf fn_F76) [1]) (LSh.told F76_L8_sh 0 (F76_L8_step)) :=
  loop_ok (E := F76_E) (F76_Eok) (told := F76_told) (l := F76_L8_sh) (step := F76_L8_step) (loopsOK_of (ls := []) (by kernel_rfl) trivial) (by kernel_rfl) (fun v => by kernel_rfl)
theorem F76_ok : FOK Tryz.prog n_F76 F76_sh F76_fo F76 :=
  fn_ok (E := F76_E) (F76_Eok) (told := F76_told) (fl := []) (c := bodyOf fn_F76) (s := F76_sh) (l := F76_fo) (tree := F76_t) fnat_F76 (by kernel_rfl) (by kernel_rfl) (by kernel_rfl) (loopsOK_of (ls := [loopAt (bodyOf fn_F76) [0], loopAt (bodyOf fn_F76) [1]]) (by kernel_rfl) ⟨.inr ⟨_, by kernel_rfl, F76_L3_ok⟩, ⟨.inr ⟨_, by kernel_rfl, F76_L8_ok⟩, trivial⟩⟩) (fun v => by kernel_rfl)

theorem F76_eq (n : Nat) (ds : List Dg) (hn : 1 ≤ n ∧ n ≤ 1000000) (hl : ds.length < 1000000) (h : ∀ d ∈ ds, 0 ≤ d.1 ∧ d.1 < d.2 ∧ d.2 < (n : Int)) : F76 ((n : Int), ds) = some ((), quid n ds) := by
  have hones : ∀ m k, k + m = n → F76_L3 ((ds, ((), ((n : Int), (k : Int)))), List.replicate k 1 ++ List.replicate (n - k) 0) = some ((ds, ()), List.replicate n 1) := by
    intro m
    induction m with
    | zero =>
      intro k hk
      have : k = n := by omega
      subst this
      rw [Nat.sub_self, List.replicate_zero, List.append_nil]
      simp only [F76_L3]
      exact loopO_done (by simp [F76_L3_step, T.run])
    | succ m ih =>
      intro k hk
      have ih := ih (k + 1) (by omega)
      simp only [F76_L3] at ih ⊢
      rw [← ih]
      refine loopO_next ?_
      have hlen : (List.replicate k (1 : Int) ++ List.replicate (n - k) 0).length = n := by simp; omega
      have c0 : (k : Int) < (n : Int) := by omega
      have c1 : (0 : Int) ≤ (k : Int) ∧ (k : Int) < (n : Int) := by omega
      have w1 : w64 ((k : Int) + 1) = ((k + 1 : Nat) : Int) := by rw [w64_id (by omega) (by omega)]; omega
      have hs : (List.replicate k (1 : Int) ++ List.replicate (n - k) 0).set k 1 = List.replicate (k + 1) 1 ++ List.replicate (n - (k + 1)) 0 := by
        rw [List.set_append_right _ _ (by simp), List.length_replicate, Nat.sub_self, show n - k = (n - (k + 1)) + 1 by omega, List.replicate_succ, List.set_cons_zero, List.replicate_succ', List.append_assoc]
        rfl
      have g0 : ∃ x, (List.replicate k (1 : Int) ++ List.replicate (n - k) 0)[k]? = some x := ⟨_, List.getElem?_eq_getElem (by rw [hlen]; omega)⟩
      obtain ⟨x, g0⟩ := g0
      simp only [F76_L3_step, T.run, hlen, c0, c1, decide_true, if_true, and_self, Int.toNat_natCast, Nat.zero_add, g0, Option.bind_some, hs, w1, List.length_set, true_and]
      have hlen2 : n = (List.replicate (k + 1) (1 : Int) ++ List.replicate (n - (k + 1)) 0).length := by simp; omega
      rw [← hlen2]
      simp
  have hl' := loop_fold (step := fun v => (F76_L8_step v).run) (xs := ds) (fun k (s : List Int) => s.length = n ∧ ∀ p, p < n → 0 ≤ s.getD p 0 ∧ s.getD p 0 ≤ k + 1) (fun k s => (((), (ds, ((ds.length : Int), (k : Int)))), s)) bumpD (fun s => ((), s))
    (fun k s d hP hd => by
      obtain ⟨hs, hb⟩ := hP
      have hlt := getElem?_lt hd
      obtain ⟨q1, q2, q3⟩ := h d (List.mem_of_getElem? hd)
      refine ⟨?_, by rw [bumpD_length, hs], fun p hp => ?_⟩
      · have c0 : (k : Int) < (ds.length : Int) := by omega
        have c1 : (0 : Int) ≤ (k : Int) ∧ (k : Int) < (ds.length : Int) := by omega
        have w1 : w64 ((k : Int) + 1) = ((k + 1 : Nat) : Int) := by rw [w64_id (by omega) (by omega)]; omega
        have c2 : 0 ≤ d.1 ∧ d.1 < (s.length : Int) := by omega
        have c3 : 0 ≤ d.2 ∧ d.2 < (s.length : Int) := by omega
        have b1 := hb d.1.toNat (by omega)
        have b2 := hb d.2.toNat (by omega)
        have g1 : s[d.1.toNat]? = some (s.getD d.1.toNat 0) := by rw [List.getD_eq_getElem?_getD, List.getElem?_eq_getElem (by omega)]; rfl
        have g2 : s[d.2.toNat]? = some (s.getD d.2.toNat 0) := by rw [List.getD_eq_getElem?_getD, List.getElem?_eq_getElem (by omega)]; rfl
        have w2 : w64 (s.getD d.1.toNat 0 + 1) = s.getD d.1.toNat 0 + 1 := w64_id (by omega) (by omega)
        have w3 : w64 (s.getD d.2.toNat 0 + 1) = s.getD d.2.toNat 0 + 1 := w64_id (by omega) (by omega)
        have g3 : (s.set d.1.toNat (s.getD d.1.toNat 0 + 1))[d.2.toNat]? = some (s.getD d.2.toNat 0) := by rw [List.getElem?_set_ne (by omega)]; exact g2
        simp only [F76_L8_step, T.run, c0, c1, c2, c3, decide_true, if_true, and_self, Int.toNat_natCast, hd, Option.bind_some, Nat.zero_add, g1, w2, g3, w3, w1]
        simp [bumpD]
      · rw [bumpD_get q1 q2 (by omega) (by omega)]
        have := hb p hp
        have : 0 ≤ cntD d p ∧ cntD d p ≤ 1 := by unfold cntD; split <;> split <;> omega
        omega)
    (fun s hs => by simp [F76_L8_step, T.run])
    (List.replicate n 1) ⟨by simp, fun p hp => by rw [List.getD_eq_getElem?_getD, List.getElem?_replicate, if_pos hp]; simp⟩
  have hq : ds.foldl bumpD (List.replicate n 1) = quid n ds := by
    obtain ⟨f1, f2⟩ := bump_fold n ds (List.replicate n 1) (by simp) h
    refine List.ext_getElem (by rw [f1]; simp [quid]) fun p hp _ => ?_
    have := f2 p (by omega)
    rw [List.getD_eq_getElem?_getD, List.getElem?_eq_getElem hp, List.getD_eq_getElem?_getD, List.getElem?_replicate, if_pos (by omega)] at this
    simp only [Option.getD_some] at this
    rw [this]
    simp [quid]
  have h0 := hones n 0 (by omega)
  rw [List.replicate_zero, List.nil_append, Nat.sub_zero] at h0
  simp only [Int.natCast_zero] at hl' h0
  have c0 : (0 : Int) ≤ (n : Int) ∧ (n : Int) ≤ (n : Int) ∧ n * 9 ≤ 140737488355328 := by omega
  simp only [F76, F76_t, T.run, Int.toNat_natCast, c0, and_self, decide_true, if_true, List.length_replicate, true_and, h0, Option.bind_some, F76_L8]
  rw [hl'.1, hq]
  simp


def F57_sh : FSh := ⟨[(.one (.sl (.int .i64) false false)), (.one (.sl (.int .i64) false false))], []⟩

def F57_L2_sh : LSh := ⟨(fun ex => match ex with | .norm => [(0, none), (1, none), (7, none), (8, none)] | .exit i => if i = 0 then [] else [] | .ret => [(4, none)]), [(0, (.one (.sl (.int .i64) false false))), (1, (.one (.sl (.int .i64) false false))), (7, (.one (.si .i64))), (8, (.one (.si .i64)))], [], [⟨.ret, [(4, (.one .sb))], []⟩, ⟨(.exit 0), [], []⟩], [], []⟩
noncomputable def F57_L2_step : (List (Int) × List (Int) × Int × Int) → T ((List (Int) × List (Int) × Int × Int) ⊕ (Bool ⊕ Unit)) := fun (a, b, t7, t8) =>
 (.test (decide (t8 < t7))
 (.test (decide ((0 ≤ t8) ∧ (t8 < ((List.length a) : Int))))
 (.sub (a[(Int.toNat t8)]?) fun z0 =>
 (.test (decide ((0 ≤ t8) ∧ (t8 < ((List.length b) : Int))))
 (.sub (b[(Int.toNat t8)]?) fun z1 =>
 (.test (z0 != z1)
 (.test (decide ((0 ≤ t8) ∧ (t8 < ((List.length a) : Int))))
 (.sub (a[(Int.toNat t8)]?) fun z2 =>
 (.test (decide ((0 ≤ t8) ∧ (t8 < ((List.length b) : Int))))
 (.sub (b[(Int.toNat t8)]?) fun z3 =>
 (.ret (Sum.inr (Sum.inl (decide (z2 < z3))))))
 .fail))
 .fail)
 (.ret (Sum.inl (a, (b, (t7, (w64 (t8 + 1)))))))))
 .fail))
 .fail)
 (.ret (Sum.inr (Sum.inr ()))))
noncomputable def F57_L2 (v : (List (Int) × List (Int) × Int × Int)) : Option (Bool ⊕ Unit) := loopO (fun v => (F57_L2_step v).run) v

def F57_fo : List FO := [⟨[(.one .sb)], []⟩]
noncomputable def F57_t : (List (Int) × List (Int)) → T Bool := fun (a, b) =>
 (.sub (F57_L2 (a, (b, (((List.length a) : Int), (0 : Int))))) fun z0 =>
 (.test (Sum.isLeft z0)
 (.sub (Sum.getLeft? z0) fun z1 =>
 (.ret z1))
 (.sub (Sum.getRight? z0) fun z2 =>
 (.ret false))))
noncomputable def F57 (v : (List (Int) × List (Int))) : Option Bool := (F57_t v).run
noncomputable def F57_E : TEnv := E0
theorem F57_Eok : (F57_E).OK := E0ok
noncomputable def F57_told : Nat → Option SealT := fun id => if id = 2 then some (LSh.told F57_L2_sh 0 (F57_L2_step)) else none
theorem F57_L2_ok : ToldOK Tryz.prog 0 (loopAt (bodyOf fn_F57) [0]) (LSh.told F57_L2_sh 0 (F57_L2_step)) :=
  loop_ok (E := F57_E) (F57_Eok) (told := F57_told) (l := F57_L2_sh) (step := F57_L2_step) (loopsOK_of (ls := []) (by kernel_rfl) trivial) (by kernel_rfl) (fun v => by kernel_rfl)
theorem F57_ok : FOK Tryz.prog n_F57 F57_sh F57_fo F57 :=
  fn_ok (E := F57_E) (F57_Eok) (told := F57_told) (fl := []) (c := bodyOf fn_F57) (s := F57_sh) (l := F57_fo) (tree := F57_t) fnat_F57 (by kernel_rfl) (by kernel_rfl) (by kernel_rfl) (loopsOK_of (ls := [loopAt (bodyOf fn_F57) [0]]) (by kernel_rfl) ⟨.inr ⟨_, by kernel_rfl, F57_L2_ok⟩, trivial⟩) (fun v => by kernel_rfl)

theorem F57_eq (a b : List Int) (h : a.length = b.length) (hl : a.length < 1000000) : F57 (a, b) = some (ltL a b) := by
  have key : ∀ m k, k + m = a.length → F57_L2 (a, (b, ((a.length : Int), (k : Int)))) = some (if ltL (a.drop k) (b.drop k) then .inl true else match (List.range a.length).drop k |>.find? (fun p => a.getD p 0 != b.getD p 0) with | some _ => .inl false | none => .inr ()) := by
    intro m
    induction m with
    | zero =>
      intro k hk
      have : k = a.length := by omega
      subst this
      rw [List.drop_length, h, List.drop_length]
      simp only [F57_L2]
      refine loopO_done ?_
      rw [List.drop_of_length_le (by simp)]
      simp [F57_L2_step, T.run, ltL]
    | succ m ih =>
      intro k hk
      have hlt : k < a.length := by omega
      have ih := ih (k + 1) (by omega)
      have c0 : (k : Int) < (a.length : Int) := by omega
      have c1 : (0 : Int) ≤ (k : Int) ∧ (k : Int) < (a.length : Int) := by omega
      have c2 : (0 : Int) ≤ (k : Int) ∧ (k : Int) < (b.length : Int) := by omega
      have w1 : w64 ((k : Int) + 1) = ((k + 1 : Nat) : Int) := by rw [w64_id (by omega) (by omega)]; omega
      have g1 := set_getD hlt
      have g2 := set_getD (show k < b.length by omega)
      have hd := ltL_drop h hlt
      rw [List.drop_eq_getElem_cons (l := List.range a.length) (i := k) (by simpa using hlt), List.find?_cons, List.getElem_range]
      simp only [F57_L2] at ih ⊢
      by_cases he : a.getD k 0 = b.getD k 0
      · have e2 : (a.getD k 0 != b.getD k 0) = false := by simp only [he]; simp
        rw [if_neg (fun hne => hne he)] at hd
        rw [hd, e2]
        simp only []
        rw [← ih]
        refine loopO_next ?_
        simp only [F57_L2_step, T.run, c0, c1, c2, decide_true, if_true, and_self, Int.toNat_natCast, g1, g2, Option.bind_some, e2, Bool.false_eq_true, if_false, w1]
      · have e2 : (a.getD k 0 != b.getD k 0) = true := by rw [bne_iff_ne]; exact he
        rw [if_pos he] at hd
        rw [hd, e2]
        simp only []
        refine loopO_done ?_
        simp only [F57_L2_step, T.run, c0, c1, c2, decide_true, if_true, and_self, Int.toNat_natCast, g1, g2, Option.bind_some, e2]
        by_cases hlt2 : a.getD k 0 < b.getD k 0 <;> simp only [hlt2, decide_true, decide_false, if_true, Bool.false_eq_true, if_false]
  have h0 := key a.length 0 (by omega)
  simp only [Int.natCast_zero, List.drop_zero] at h0
  simp only [F57, F57_t, T.run, h0, Option.bind_some]
  cases ltL a b with
  | true => simp
  | false =>
    simp only [Bool.false_eq_true, if_false]
    cases (List.range a.length).find? (fun p => a.getD p 0 != b.getD p 0) <;> simp


def F58_sh : FSh := ⟨[(.one (.si .i64))], []⟩

def F58_L7_sh : LSh := ⟨(fun ex => match ex with | .norm => [(0, none), (3, none), (6, none), (7, none), (10, none), (11, none), (12, none)] | .exit i => if i = 2 then [(0, none), (3, none), (6, none), (7, none), (10, none), (11, none), (12, none)] else if i = 1 then [(0, none), (3, none), (10, none), (11, none), (12, none)] else if i = 0 then [(3, none)] else [] | .ret => [(2, none)]), [(0, (.one (.si .i64))), (3, (.one (.rw 0 0))), (6, (.one (.rw 1 0))), (7, (.one (.si .i64))), (10, (.one (.rw 2 0))), (11, (.one (.si .i64))), (12, (.one (.si .i64)))], [(.row 0 (.list true (.int .i64))), (.row 0 (.int .i64)), (.row 0 (.list true (.pair (.int .i64) (.int .i64))))], [⟨(.exit 2), [(0, (.one (.si .i64))), (3, (.one (.rw 0 0))), (6, (.one (.rw 1 0))), (7, (.one (.si .i64))), (10, (.one (.rw 2 0))), (11, (.one (.si .i64))), (12, (.one (.si .i64)))], [(.row 0 (.list true (.int .i64))), (.row 0 (.int .i64)), (.row 0 (.list true (.pair (.int .i64) (.int .i64))))]⟩], [], []⟩
noncomputable def F58_L7_step : ((Int × Unit × Unit × Int × Unit × Int × Int) × (List (List (Int)) × List (Int) × List (List ((Int × Int))))) → T (((Int × Unit × Unit × Int × Unit × Int × Int) × (List (List (Int)) × List (Int) × List (List ((Int × Int))))) ⊕ ((Int × Unit × Unit × Int × Unit × Int × Int) × (List (List (Int)) × List (Int) × List (List ((Int × Int)))))) := fun ((n, (), (), k, (), t11, t12), (out, q, t10)) =>
 (.test (decide (k > 0))
 (.test (decide ((0 ≤ (w64 (k - 1))) ∧ ((w64 (k - 1)) < ((List.length out) : Int))))
 (.sub (out[(0 + (Int.toNat (w64 (k - 1))))]?) fun z0 =>
 (.test (decide ((0 + (List.length q)) ≤ (List.length q)))
 (.sub (F57 ((win q 0 (List.length q)), z0)) fun z1 =>
 (.test z1
 (.test (decide ((0 = 0) ∧ ((List.length out) = (List.length out))))
 (.test (decide ((0 = 0) ∧ ((List.length q) = (List.length q))))
 (.test (decide ((0 = 0) ∧ ((List.length t10) = (List.length t10))))
 (.ret (Sum.inl ((n, ((), ((), ((w64 (k - 1)), ((), (t11, t12)))))), (out, (q, t10)))))
 .fail)
 .fail)
 .fail)
 (.test (decide ((0 = 0) ∧ ((List.length out) = (List.length out))))
 (.test (decide ((0 = 0) ∧ ((List.length q) = (List.length q))))
 (.test (decide ((0 = 0) ∧ ((List.length t10) = (List.length t10))))
 (.ret (Sum.inr ((n, ((), ((), (k, ((), (t11, t12)))))), (out, (q, t10)))))
 .fail)
 .fail)
 .fail)))
 .fail))
 .fail)
 (.test (decide ((0 = 0) ∧ ((List.length out) = (List.length out))))
 (.test (decide ((0 = 0) ∧ ((List.length q) = (List.length q))))
 (.test (decide ((0 = 0) ∧ ((List.length t10) = (List.length t10))))
 (.ret (Sum.inr ((n, ((), ((), (k, ((), (t11, t12)))))), (out, (q, t10)))))
 .fail)
 .fail)
 .fail))
noncomputable def F58_L7 (v : ((Int × Unit × Unit × Int × Unit × Int × Int) × (List (List (Int)) × List (Int) × List (List ((Int × Int)))))) : Option ((Int × Unit × Unit × Int × Unit × Int × Int) × (List (List (Int)) × List (Int) × List (List ((Int × Int))))) := loopO (fun v => (F58_L7_step v).run) v

def F58_L3_sh : LSh := ⟨(fun ex => match ex with | .norm => [(0, none), (3, none), (10, none), (11, none), (12, none)] | .exit i => if i = 0 then [(3, none)] else [] | .ret => [(2, none)]), [(0, (.one (.si .i64))), (3, (.one (.rw 0 0))), (10, (.one (.rw 1 0))), (11, (.one (.si .i64))), (12, (.one (.si .i64)))], [(.row 0 (.list true (.int .i64))), (.row 0 (.list true (.pair (.int .i64) (.int .i64))))], [⟨(.exit 0), [(3, (.one (.rw 0 0)))], [(.row 0 (.list true (.int .i64)))]⟩], [], []⟩
noncomputable def F58_L3_step : ((Int × Unit × Unit × Int × Int) × (List (List (Int)) × List (List ((Int × Int))))) → T (((Int × Unit × Unit × Int × Int) × (List (List (Int)) × List (List ((Int × Int))))) ⊕ (Unit × List (List (Int)))) := fun ((n, (), (), t11, t12), (out, t10)) =>
 (.test (decide (t12 < t11))
 (.test (decide ((0 ≤ t12) ∧ (t12 < ((List.length t10) : Int))))
 (.sub (t10[(0 + (Int.toNat t12))]?) fun z0 =>
 (.sub (F76 (n, z0)) fun z1 =>
 (.test (decide ((0 = 0) ∧ ((List.length out) = (List.length out))))
 (.test (decide ((0 = 0) ∧ ((List.length z1.2) = (List.length z1.2))))
 (.test (decide ((0 = 0) ∧ ((List.length t10) = (List.length t10))))
 (.sub (F58_L7 ((n, ((), ((), (((List.length out) : Int), ((), (t11, t12)))))), (out, (z1.2, t10)))) fun z2 =>
 (.test (decide (0 ≤ z2.1.2.2.2.1))
 (.test (decide ((0 ≤ (Int.toNat z2.1.2.2.2.1)) ∧ ((Int.toNat z2.1.2.2.2.1) ≤ (List.length z2.2.1))))
 (.test (decide ((0 + ((Int.toNat z2.1.2.2.2.1) - 0)) ≤ (List.length z2.2.1)))
 (.test true
 (.test (decide ((2 * ((0 + (List.length (win z2.2.1 0 ((Int.toNat z2.1.2.2.2.1) - 0)))) * 25)) ≤ 140737488355328))
 (.test (decide ((0 + (List.length z2.2.2.1)) ≤ (List.length z2.2.2.1)))
 (.test (decide (1 ≤ (List.length (List.set (List.replicate 1 ([] : List (Int))) 0 (win z2.2.2.1 0 (List.length z2.2.2.1))))))
 (.test (decide ((0 + (0 + (List.length (win z2.2.1 0 ((Int.toNat z2.1.2.2.2.1) - 0))))) ≤ (List.length ((win (List.replicate 0 ([] : List (Int))) 0 0) ++ (win z2.2.1 0 ((Int.toNat z2.1.2.2.2.1) - 0))))))
 (.test (decide ((2 * (((0 + (List.length (win z2.2.1 0 ((Int.toNat z2.1.2.2.2.1) - 0)))) + (List.length (win (List.set (List.replicate 1 ([] : List (Int))) 0 (win z2.2.2.1 0 (List.length z2.2.2.1))) 0 1))) * 25)) ≤ 140737488355328))
 (.test (decide (0 ≤ z2.1.2.2.2.1))
 (.test (decide (((Int.toNat z2.1.2.2.2.1) ≤ (List.length z2.2.1)) ∧ ((List.length z2.2.1) ≤ (List.length z2.2.1))))
 (.test (decide (((0 + (Int.toNat z2.1.2.2.2.1)) + ((List.length z2.2.1) - (Int.toNat z2.1.2.2.2.1))) ≤ (List.length z2.2.1)))
 (.test (decide ((0 + ((0 + (List.length (win z2.2.1 0 ((Int.toNat z2.1.2.2.2.1) - 0)))) + (List.length (win (List.set (List.replicate 1 ([] : List (Int))) 0 (win z2.2.2.1 0 (List.length z2.2.2.1))) 0 1)))) ≤ (List.length ((win ((win (List.replicate 0 ([] : List (Int))) 0 0) ++ (win z2.2.1 0 ((Int.toNat z2.1.2.2.2.1) - 0))) 0 (0 + (List.length (win z2.2.1 0 ((Int.toNat z2.1.2.2.2.1) - 0))))) ++ (win (List.set (List.replicate 1 ([] : List (Int))) 0 (win z2.2.2.1 0 (List.length z2.2.2.1))) 0 1)))))
 (.test (decide ((2 * ((((0 + (List.length (win z2.2.1 0 ((Int.toNat z2.1.2.2.2.1) - 0)))) + (List.length (win (List.set (List.replicate 1 ([] : List (Int))) 0 (win z2.2.2.1 0 (List.length z2.2.2.1))) 0 1))) + (List.length (win z2.2.1 (0 + (Int.toNat z2.1.2.2.2.1)) ((List.length z2.2.1) - (Int.toNat z2.1.2.2.2.1))))) * 25)) ≤ 140737488355328))
 (.test (decide ((0 = 0) ∧ ((((0 + (List.length (win z2.2.1 0 ((Int.toNat z2.1.2.2.2.1) - 0)))) + (List.length (win (List.set (List.replicate 1 ([] : List (Int))) 0 (win z2.2.2.1 0 (List.length z2.2.2.1))) 0 1))) + (List.length (win z2.2.1 (0 + (Int.toNat z2.1.2.2.2.1)) ((List.length z2.2.1) - (Int.toNat z2.1.2.2.2.1))))) = (List.length ((win ((win ((win (List.replicate 0 ([] : List (Int))) 0 0) ++ (win z2.2.1 0 ((Int.toNat z2.1.2.2.2.1) - 0))) 0 (0 + (List.length (win z2.2.1 0 ((Int.toNat z2.1.2.2.2.1) - 0))))) ++ (win (List.set (List.replicate 1 ([] : List (Int))) 0 (win z2.2.2.1 0 (List.length z2.2.2.1))) 0 1)) 0 ((0 + (List.length (win z2.2.1 0 ((Int.toNat z2.1.2.2.2.1) - 0)))) + (List.length (win (List.set (List.replicate 1 ([] : List (Int))) 0 (win z2.2.2.1 0 (List.length z2.2.2.1))) 0 1)))) ++ (win z2.2.1 (0 + (Int.toNat z2.1.2.2.2.1)) ((List.length z2.2.1) - (Int.toNat z2.1.2.2.2.1))))))))
 (.test (decide ((0 = 0) ∧ ((List.length z2.2.2.2) = (List.length z2.2.2.2))))
 (.ret (Sum.inl ((z2.1.1, ((), ((), (z2.1.2.2.2.2.2.1, (w64 (z2.1.2.2.2.2.2.2 + 1)))))), (((win ((win ((win (List.replicate 0 ([] : List (Int))) 0 0) ++ (win z2.2.1 0 ((Int.toNat z2.1.2.2.2.1) - 0))) 0 (0 + (List.length (win z2.2.1 0 ((Int.toNat z2.1.2.2.2.1) - 0))))) ++ (win (List.set (List.replicate 1 ([] : List (Int))) 0 (win z2.2.2.1 0 (List.length z2.2.2.1))) 0 1)) 0 ((0 + (List.length (win z2.2.1 0 ((Int.toNat z2.1.2.2.2.1) - 0)))) + (List.length (win (List.set (List.replicate 1 ([] : List (Int))) 0 (win z2.2.2.1 0 (List.length z2.2.2.1))) 0 1)))) ++ (win z2.2.1 (0 + (Int.toNat z2.1.2.2.2.1)) ((List.length z2.2.1) - (Int.toNat z2.1.2.2.2.1)))), z2.2.2.2))))
 .fail)
 .fail)
 .fail)
 .fail)
 .fail)
 .fail)
 .fail)
 .fail)
 .fail)
 .fail)
 .fail)
 .fail)
 .fail)
 .fail)
 .fail)
 .fail))
 .fail)
 .fail)
 .fail)))
 .fail)
 (.test (decide ((0 = 0) ∧ ((List.length out) = (List.length out))))
 (.ret (Sum.inr ((), out)))
 .fail))
noncomputable def F58_L3 (v : ((Int × Unit × Unit × Int × Int) × (List (List (Int)) × List (List ((Int × Int)))))) : Option (Unit × List (List (Int))) := loopO (fun v => (F58_L3_step v).run) v

def F58_fo : List FO := [⟨[(.one (.rw 0 0))], [(.row 0 (.list true (.int .i64)))]⟩]
noncomputable def F58_t : Int → T (Unit × List (List (Int))) := fun n =>
 (.sub (F109 n) fun z0 =>
 (.test (decide ((0 = 0) ∧ (0 = (List.length ([] : List (List Int))))))
 (.test (decide ((0 = 0) ∧ ((List.length z0.2) = (List.length z0.2))))
 (.sub (F58_L3 ((n, ((), ((), (((List.length z0.2) : Int), (0 : Int))))), (([] : List (List Int)), z0.2))) fun z1 =>
 (.test (decide ((0 = 0) ∧ ((List.length z1.2) = (List.length z1.2))))
 (.ret ((), z1.2))
 .fail))
 .fail)
 .fail))
noncomputable def F58 (v : Int) : Option (Unit × List (List (Int))) := (F58_t v).run
noncomputable def F58_E : TEnv := (((E0.add1 n_F109 F109_sh F109_fo F109).add1 n_F76 F76_sh F76_fo F76).add1 n_F57 F57_sh F57_fo F57)
theorem F58_Eok : (F58_E).OK := (((E0ok.add1 F109_ok).add1 F76_ok).add1 F57_ok)
noncomputable def F58_told : Nat → Option SealT := fun id => if id = 7 then some (LSh.told F58_L7_sh 0 (F58_L7_step)) else if id = 3 then some (LSh.told F58_L3_sh 0 (F58_L3_step)) else none
theorem F58_L7_ok : ToldOK Tryz.prog 0 (loopAt (bodyOf fn_F58) [0, 0]) (LSh.told F58_L7_sh 0 (F58_L7_step)) :=
  loop_ok (E := F58_E) (F58_Eok) (told := F58_told) (l := F58_L7_sh) (step := F58_L7_step) (loopsOK_of (ls := []) (by kernel_rfl) trivial) (by kernel_rfl) (fun v => by kernel_rfl)
theorem F58_L3_ok : ToldOK Tryz.prog 0 (loopAt (bodyOf fn_F58) [0]) (LSh.told F58_L3_sh 0 (F58_L3_step)) :=
  loop_ok (E := F58_E) (F58_Eok) (told := F58_told) (l := F58_L3_sh) (step := F58_L3_step) (loopsOK_of (ls := [loopAt (bodyOf fn_F58) [0, 0]]) (by kernel_rfl) ⟨.inr ⟨_, by kernel_rfl, F58_L7_ok⟩, trivial⟩) (by kernel_rfl) (fun v => by kernel_rfl)
theorem F58_ok : FOK Tryz.prog n_F58 F58_sh F58_fo F58 :=
  fn_ok (E := F58_E) (F58_Eok) (told := F58_told) (fl := []) (c := bodyOf fn_F58) (s := F58_sh) (l := F58_fo) (tree := F58_t) fnat_F58 (by kernel_rfl) (by kernel_rfl) (by kernel_rfl) (loopsOK_of (ls := [loopAt (bodyOf fn_F58) [0]]) (by kernel_rfl) ⟨.inr ⟨_, by kernel_rfl, F58_L3_ok⟩, trivial⟩) (fun v => by kernel_rfl)

theorem F58_place (n : Int) (q : List Int) (out : List (List Int)) (t10 : List (List Dg)) (t11 t12 : Int) (hl : out.length < 1000000000) (hq : q.length < 1000000) (ho : ∀ x ∈ out, x.length = q.length) :
    ∀ k, k ≤ out.length → F58_L7 ((n, ((), ((), ((k : Int), ((), (t11, t12)))))), (out, (q, t10))) = some ((n, ((), ((), ((placeL q out k : Int), ((), (t11, t12)))))), (out, (q, t10)))
  | 0, hk => by
    simp only [F58_L7, placeL]
    exact loopO_done (by simp [F58_L7_step, T.run])
  | k + 1, hk => by
    have c0 : ((k + 1 : Nat) : Int) > 0 := by omega
    have c1 : (0 : Int) ≤ (k : Int) ∧ (k : Int) < (out.length : Int) := by omega
    have w1 : w64 (((k + 1 : Nat) : Int) - 1) = (k : Int) := by rw [w64_id (by omega) (by omega)]; omega
    have g1 := gL_some (show k < out.length by omega)
    have hb := F57_eq q (gL out k) (ho _ (List.mem_of_getElem? g1)).symm hq
    unfold placeL
    cases hlt : ltL q (gL out k) with
    | true =>
      rw [hlt] at hb
      have ih := F58_place n q out t10 t11 t12 hl hq ho k (by omega)
      simp only [F58_L7, if_true] at ih ⊢
      rw [← ih]
      refine loopO_next ?_
      simp only [F58_L7_step, T.run, c0, c1, w1, decide_true, if_true, and_self, true_and, Int.toNat_natCast, Nat.zero_add, g1, Option.bind_some, Nat.le_refl, win_all, hb]
    | false =>
      rw [hlt] at hb
      simp only [F58_L7, Bool.false_eq_true, if_false]
      refine loopO_done ?_
      simp only [F58_L7_step, T.run, c0, c1, w1, decide_true, if_true, and_self, true_and, Int.toNat_natCast, Nat.zero_add, g1, Option.bind_some, Nat.le_refl, win_all, hb, Bool.false_eq_true, if_false]
theorem F58_eq (n : Nat) (hn : 3 ≤ n ∧ n ≤ 9) : F58 (n : Int) = some ((), allQ n) := by
  have hlen := allT_len n hn.2
  have h := loop_fold (step := fun v => (F58_L3_step v).run) (xs := allT n) (fun k (s : List (List Int)) => s.length = k ∧ ∀ x ∈ s, x.length = n) (fun k s => (((n : Int), ((), ((), (((allT n).length : Int), (k : Int))))), (s, allT n))) (fun s ds => insL s (quid n ds)) (fun s => ((), s))
    (fun k s ds hP hds => by
      obtain ⟨hs, hx⟩ := hP
      have hlt := getElem?_lt hds
      obtain ⟨q1, q2⟩ := allT_in hn (List.mem_of_getElem? hds)
      have hq := F76_eq n ds ⟨by omega, by omega⟩ (by omega) q2
      have hpl := F58_place (n : Int) (quid n ds) s (allT n) ((allT n).length : Int) (k : Int) (by omega) (by rw [quid_length]; omega) (fun x hx' => by rw [hx x hx', quid_length]) s.length (Nat.le_refl _)
      have hp1 := (placeL_spec (quid n ds) s s.length).1
      refine ⟨?_, by rw [insL_length, hs], fun x hx' => ?_⟩
      · have c0 : (k : Int) < ((allT n).length : Int) := by omega
        have c1 : (0 : Int) ≤ (k : Int) ∧ (k : Int) < ((allT n).length : Int) := by omega
        have w1 : w64 ((k : Int) + 1) = ((k + 1 : Nat) : Int) := by rw [w64_id (by omega) (by omega)]; omega
        have hins : insL s (quid n ds) = s.take (placeL (quid n ds) s s.length) ++ quid n ds :: s.drop (placeL (quid n ds) s s.length) := rfl
        rw [hins]
        generalize placeL (quid n ds) s s.length = m at *
        have t1 : win s 0 (m - 0) = s.take m := win_take _ _
        have t2 : win (s.take m) 0 m = s.take m := by rw [win_take, List.take_take, Nat.min_self]
        have t3 : win s m (s.length - m) = s.drop m := by unfold win; rw [List.take_of_length_le (by simp)]
        have l1 : (s.take m).length = m := by simp; omega
        have l2 : (s.drop m).length = s.length - m := by simp
        have t4 : win ([] : List (List Int)) 0 0 = [] := rfl
        have l3 : (s.take m ++ [quid n ds]).length = m + 1 := by simp; omega
        have t5 : win (s.take m ++ [quid n ds]) 0 (m + 1) = s.take m ++ [quid n ds] := by rw [← l3]; exact win_all _
        have e : s.take m ++ [quid n ds] ++ s.drop m = s.take m ++ quid n ds :: s.drop m := by simp
        have l4 : (s.take m ++ quid n ds :: s.drop m).length = s.length + 1 := by simp; omega
        have n1 : (0 : Int) ≤ (m : Int) := by omega
        have n2 : 0 ≤ m ∧ m ≤ s.length := by omega
        have n3 : m ≤ s.length := by omega
        have n4 : 2 * ((m + 1 + (s.length - m)) * 25) ≤ 140737488355328 := by omega
        have n5 : 2 * (m * 25) ≤ 140737488355328 := by omega
        have n6 : 2 * ((m + 1) * 25) ≤ 140737488355328 := by omega
        have n7 : m + (s.length - m) ≤ s.length := by omega
        have n8 : m + 1 + (s.length - m) = s.length + 1 := by omega
        have n9 : m ≤ s.length ∧ s.length ≤ s.length := by omega
        have hone : win (List.set (List.replicate 1 ([] : List Int)) 0 (quid n ds)) 0 1 = [quid n ds] := rfl
        simp only [F58_L3_step, T.run, c0, c1, decide_true, if_true, and_self, true_and, Int.toNat_natCast, Nat.zero_add, hds, Option.bind_some, hq, hpl, n1, n2, n3, t1, l1, n5, List.replicate_zero, t4, List.nil_append, t2, win_all, hone, List.length_cons, List.length_nil, List.length_set, List.length_replicate, Nat.le_refl, n6, n7, n9, t3, l2, l3, t5, n4, e, l4, n8, w1]
        rw [if_pos (decide_eq_true (by omega)), if_pos (decide_eq_true (by omega))]
      · rcases List.mem_cons.1 ((insL_perm s (quid n ds)).mem_iff.1 hx') with rfl | h
        · exact quid_length n ds
        · exact hx x h)
    (fun s hs => by simp [F58_L3_step, T.run])
    [] ⟨rfl, by simp⟩
  have hfold : (allT n).foldl (fun s ds => insL s (quid n ds)) [] = allQ n := by
    unfold allQ
    rw [← insL_sortL, List.foldl_map]
  simp only [Int.natCast_zero] at h
  simp only [F58, F58_t, T.run, F109_eq n hn, Option.bind_some, List.length_nil, true_and, decide_true, if_true, F58_L3, h.1, hfold]


def F103_sh : FSh := ⟨[(.ag [(.sl (.int .i64) false false)]), (.one (.sl (.int .i64) false false))], []⟩

def F103_L4_sh : LSh := ⟨(fun ex => match ex with | .norm => [(1, none), (14, none), (15, none), (16, none)] | .exit i => if i = 0 then [] else [] | .ret => [(4, none)]), [(1, (.one (.sl (.int .i64) false false))), (14, (.one (.sl (.int .i64) false false))), (15, (.one (.si .i64))), (16, (.one (.si .i64)))], [], [⟨.ret, [(4, (.one .sb))], []⟩, ⟨(.exit 0), [], []⟩], [], []⟩
noncomputable def F103_L4_step : (List (Int) × List (Int) × Int × Int) → T ((List (Int) × List (Int) × Int × Int) ⊕ (Bool ⊕ Unit)) := fun (quiddity, t14, t15, t16) =>
 (.test (decide (t16 < t15))
 (.test (decide ((0 ≤ t16) ∧ (t16 < ((List.length t14) : Int))))
 (.sub (t14[(Int.toNat t16)]?) fun z0 =>
 (.test (z0 != 0)
 (.test (decide ((0 ≤ t16) ∧ (t16 < ((List.length quiddity) : Int))))
 (.sub (quiddity[(Int.toNat t16)]?) fun z1 =>
 (.test (z0 != z1)
 (.ret (Sum.inr (Sum.inl false)))
 (.ret (Sum.inl (quiddity, (t14, (t15, (w64 (t16 + 1)))))))))
 .fail)
 (.ret (Sum.inl (quiddity, (t14, (t15, (w64 (t16 + 1)))))))))
 .fail)
 (.ret (Sum.inr (Sum.inr ()))))
noncomputable def F103_L4 (v : (List (Int) × List (Int) × Int × Int)) : Option (Bool ⊕ Unit) := loopO (fun v => (F103_L4_step v).run) v

def F103_fo : List FO := [⟨[(.one .sb)], []⟩]
noncomputable def F103_t : (List (Int) × List (Int)) → T Bool := fun (p_0, quiddity) =>
 (.test (((List.length quiddity) : Int) != ((List.length p_0) : Int))
 (.ret false)
 (.sub (F103_L4 (quiddity, (p_0, (((List.length p_0) : Int), (0 : Int))))) fun z0 =>
 (.test (Sum.isLeft z0)
 (.sub (Sum.getLeft? z0) fun z1 =>
 (.ret z1))
 (.sub (Sum.getRight? z0) fun z2 =>
 (.ret true)))))
noncomputable def F103 (v : (List (Int) × List (Int))) : Option Bool := (F103_t v).run
noncomputable def F103_E : TEnv := E0
theorem F103_Eok : (F103_E).OK := E0ok
noncomputable def F103_told : Nat → Option SealT := fun id => if id = 4 then some (LSh.told F103_L4_sh 0 (F103_L4_step)) else none
theorem F103_L4_ok : ToldOK Tryz.prog 0 (loopAt (bodyOf fn_F103) [0]) (LSh.told F103_L4_sh 0 (F103_L4_step)) :=
  loop_ok (E := F103_E) (F103_Eok) (told := F103_told) (l := F103_L4_sh) (step := F103_L4_step) (loopsOK_of (ls := []) (by kernel_rfl) trivial) (by kernel_rfl) (fun v => by kernel_rfl)
theorem F103_ok : FOK Tryz.prog n_F103 F103_sh F103_fo F103 :=
  fn_ok (E := F103_E) (F103_Eok) (told := F103_told) (fl := []) (c := bodyOf fn_F103) (s := F103_sh) (l := F103_fo) (tree := F103_t) fnat_F103 (by kernel_rfl) (by kernel_rfl) (by kernel_rfl) (loopsOK_of (ls := [loopAt (bodyOf fn_F103) [0]]) (by kernel_rfl) ⟨.inr ⟨_, by kernel_rfl, F103_L4_ok⟩, trivial⟩) (fun v => by kernel_rfl)

theorem F103_eq (p q : List Int) (hl : p.length < 4611686018427387904) : F103 (p, q) = some (fits p q) := by
  simp only [F103, F103_t, T.run, fits]
  by_cases he : p.length = q.length
  · have h := loop_any (step := fun v => (F103_L4_step v).run) (xs := p.zip q) (fun x => !(x.1 == 0 || x.1 == x.2)) (fun k => (q, (p, ((p.length : Int), (k : Int))))) (.inl false) (.inr ())
      (fun k x hx => by
        obtain ⟨x1, x2⟩ := x
        rw [List.getElem?_zip_eq_some] at hx
        obtain ⟨h1, h2⟩ := hx
        simp only at h1 h2
        have hk := getElem?_lt h1
        have hk2 := getElem?_lt h2
        have c0 : (k : Int) < (p.length : Int) := by omega
        have c1 : (0 : Int) ≤ (k : Int) ∧ (k : Int) < (p.length : Int) := by omega
        have c2 : (0 : Int) ≤ (k : Int) ∧ (k : Int) < (q.length : Int) := by omega
        have w1 : w64 ((k : Int) + 1) = ((k + 1 : Nat) : Int) := by rw [w64_id (by omega) (by omega)]; omega
        simp only [F103_L4_step, T.run, c0, c1, c2, decide_true, if_true, and_self, Int.toNat_natCast, h1, h2, Option.bind_some, w1]
        by_cases e0 : x1 = 0 <;> by_cases e1 : x1 = x2 <;> simp [e0, e1])
      (by simp [F103_L4_step, T.run, he])
    simp only [Int.natCast_zero] at h
    have hne : ((q.length : Int) != (p.length : Int)) = false := by simp [he]
    simp only [F103_L4, h, hne, decide_eq_true he]
    cases (p.zip q).any (fun x => !(x.1 == 0 || x.1 == x.2)) <;> simp
  · have hne : ((q.length : Int) != (p.length : Int)) = true := by simp; omega
    simp [hne, he]


end Go.Proofs.W
