/- Functions of the program, walked, and what they compute. -/
import Derived.Test.YtppalpflejcjeaaFeWk3
set_option linter.unusedVariables false
set_option linter.unusedSimpArgs false
set_option maxRecDepth 100000
set_option maxHeartbeats 4000000
namespace Go.Proofs.W
open Go Go.Gm Go.Proofs
open Go.RowKit Go.Shelf
def F14_sh : FSh := ⟨[(.one (.sl (.pair (.int .i64) (.int .i64)) false false)), (.one (.pf 0 0 0)), (.one (.pf 1 0 0)), (.one (.pf 2 0 0)), (.one (.pf 3 0 0))], [(.rcd 0 [.sb]), (.rcd 0 [(.si .i64)]), (.rcd 0 [(.si .i64)]), (.rcd 0 [(.nl true true)])]⟩

def F14_fo : List FO := [⟨[], [(.rcd 0 [.sb]), (.rcd 0 [(.si .i64)]), (.rcd 0 [(.si .i64)]), (.rcd 0 [(.rw 4 0)]), (.row 0 (.pair (.int .i64) (.int .i64)))]⟩, ⟨[], [(.rcd 0 [.sb]), (.rcd 0 [(.si .i64)]), (.rcd 0 [(.si .i64)]), (.rcd 0 [(.nl true true)])]⟩]
noncomputable def F14_t : ((List ((Int × Int)) × Unit × Unit × Unit × Unit) × (Bool × Int × Int × Unit)) → T ((Unit × (Bool × Int × Int × Unit × List ((Int × Int)))) ⊕ (Unit × (Bool × Int × Int × Unit))) := fun ((ds, (), (), (), ()), (t1_0, t2_0, t3_0, ())) =>
 (.test (! t1_0)
 (.sub (F39 (t2_0, (ds, t3_0))) fun z0 =>
 (.test z0
 (.sub (F9 ds) fun z1 =>
 (.test (decide ((0 = 0) ∧ ((List.length z1.2) = (List.length z1.2))))
 (.ret (Sum.inl ((), (true, (t2_0, (t3_0, ((), z1.2)))))))
 .fail))
 (.ret (Sum.inr ((), (t1_0, (t2_0, (t3_0, ()))))))))
 (.ret (Sum.inr ((), (t1_0, (t2_0, (t3_0, ())))))))
noncomputable def F14 (v : ((List ((Int × Int)) × Unit × Unit × Unit × Unit) × (Bool × Int × Int × Unit))) : Option ((Unit × (Bool × Int × Int × Unit × List ((Int × Int)))) ⊕ (Unit × (Bool × Int × Int × Unit))) := (F14_t v).run
noncomputable def F14_E : TEnv := ((E0.add1 n_F39 F39_sh F39_fo F39).add1 n_F9 F9_sh F9_fo F9)
theorem F14_Eok : (F14_E).OK := ((E0ok.add1 F39_ok).add1 F9_ok)
noncomputable def F14_told : Nat → Option SealT := fun id => none
theorem F14_ok : FOK Try.prog n_F14 F14_sh F14_fo F14 :=
  fn_ok (E := F14_E) (F14_Eok) (told := F14_told) (fl := []) (c := bodyOf fn_F14) (s := F14_sh) (l := F14_fo) (tree := F14_t) fnat_F14 (by kernel_rfl) (by kernel_rfl) (by kernel_rfl) (loopsOK_of (ls := []) (by kernel_rfl) trivial) (fun v => by kernel_rfl)

def vis (N : Nat) (size : Int) (s : Bool × List Dg) (ds : List Dg) : Bool × List Dg := if (!s.1 && (szL N ds).all fun x => x == size) = true then (true, ds) else s
def visO (N : Nat) (size : Int) (s : Bool × List Dg) : Bool × Int × Int × Unit × List Dg := (s.1, ((N : Int), (size, ((), s.2))))
theorem isEq_cut {N : Nat} {ds : List Dg} (size : Int) (h : isCut N ds = true) : F39 ((N : Int), (ds, size)) = some ((szL N ds).all fun s => s == size) := by
  obtain ⟨k, e, h3, h12, hl, hc⟩ := isCut_cut h
  obtain rfl : k = N := by omega
  exact F39_eq size h3 h12 hl hc
theorem cut_short {N : Nat} {ds : List Dg} (h : isCut N ds = true) : ds.length ≤ 1000 := by
  obtain ⟨k, e, h3, h12, hl, hc⟩ := isCut_cut h
  omega
theorem F14_eq {N : Nat} {ds : List Dg} (size : Int) (h : isCut N ds = true) : F14 ((ds, ((), ((), ((), ())))), (false, ((N : Int), (size, ())))) = some (if ((szL N ds).all fun x => x == size) = true then .inl ((), (true, ((N : Int), (size, ((), ds))))) else .inr ((), (false, ((N : Int), (size, ()))))) := by
  rw [F14, F14_t, T.run_test, if_pos (by rfl), T.run_sub, isEq_cut size h, Option.bind_some, T.run_test]
  cases (szL N ds).all fun x => x == size with
  | true => rw [if_pos rfl, T.run_sub, clone_D (cut_short h), Option.bind_some, T.run_test, if_pos (by simp), T.run_ret]; rfl
  | false => rw [if_neg (by simp), T.run_ret]; rfl


def F40_sh : FSh := ⟨[(.ag [(.si .i64), (.si .i64)]), (.ag [(.si .i64), (.si .i64)])], []⟩

def F40_fo : List FO := [⟨[(.one .sb)], []⟩]
noncomputable def F40_t : ((Int × Int) × (Int × Int)) → T Bool := fun ((d_0, d_1), (e_0, e_1)) =>
 (.test (decide (d_0 < e_0))
 (.test (decide (e_0 < d_1))
 (.test (decide (d_1 < e_1))
 (.ret true)
 (.test (decide (e_0 < d_0))
 (.test (decide (d_0 < e_1))
 (.ret (decide (e_1 < d_1)))
 (.ret false))
 (.ret false)))
 (.test (decide (e_0 < d_0))
 (.test (decide (d_0 < e_1))
 (.ret (decide (e_1 < d_1)))
 (.ret false))
 (.ret false)))
 (.test (decide (e_0 < d_0))
 (.test (decide (d_0 < e_1))
 (.ret (decide (e_1 < d_1)))
 (.ret false))
 (.ret false)))
noncomputable def F40 (v : ((Int × Int) × (Int × Int))) : Option Bool := (F40_t v).run
noncomputable def F40_E : TEnv := E0
theorem F40_Eok : (F40_E).OK := E0ok
noncomputable def F40_told : Nat → Option SealT := fun id => none
theorem F40_ok : FOK Try.prog n_F40 F40_sh F40_fo F40 :=
  fn_ok (E := F40_E) (F40_Eok) (told := F40_told) (fl := []) (c := bodyOf fn_F40) (s := F40_sh) (l := F40_fo) (tree := F40_t) fnat_F40 (by kernel_rfl) (by kernel_rfl) (by kernel_rfl) (loopsOK_of (ls := []) (by kernel_rfl) trivial) (fun v => by kernel_rfl)

theorem F40_eq (d e : Dg) : F40 (d, e) = some (crossD d e) := by
  obtain ⟨a, b⟩ := d
  obtain ⟨c, f⟩ := e
  simp only [F40, F40_t, T.run, crossD]
  by_cases h1 : a < c <;> by_cases h2 : c < b <;> by_cases h3 : b < f <;> by_cases h4 : c < a <;> by_cases h5 : a < f <;> by_cases h6 : f < b <;> simp [h1, h2, h3, h4, h5, h6]


def F33_sh : FSh := ⟨[(.ag [(.si .i64), (.si .i64)]), (.one (.pf 0 0 0))], [(.rcd 0 [(.si .i64), (.si .i64)])]⟩

def F33_fo : List FO := [⟨[(.one .sb)], [(.rcd 0 [(.si .i64), (.si .i64)])]⟩]
noncomputable def F33_t : (((Int × Int) × Unit) × (Int × Int)) → T (Bool × (Int × Int)) := fun (((e_0, e_1), ()), (t1_0, t1_1)) =>
 (.sub (F40 ((t1_0, t1_1), (e_0, e_1))) fun z0 =>
 (.ret (z0, (t1_0, t1_1))))
noncomputable def F33 (v : (((Int × Int) × Unit) × (Int × Int))) : Option (Bool × (Int × Int)) := (F33_t v).run
noncomputable def F33_E : TEnv := (E0.add1 n_F40 F40_sh F40_fo F40)
theorem F33_Eok : (F33_E).OK := (E0ok.add1 F40_ok)
noncomputable def F33_told : Nat → Option SealT := fun id => none
theorem F33_ok : FOK Try.prog n_F33 F33_sh F33_fo F33 :=
  fn_ok (E := F33_E) (F33_Eok) (told := F33_told) (fl := []) (c := bodyOf fn_F33) (s := F33_sh) (l := F33_fo) (tree := F33_t) fnat_F33 (by kernel_rfl) (by kernel_rfl) (by kernel_rfl) (loopsOK_of (ls := []) (by kernel_rfl) trivial) (fun v => by kernel_rfl)

def F2_sh : FSh := ⟨[(.one (.sl (.pair (.int .i64) (.int .i64)) false false)), (.clo n_F33 [(.one (.pf 0 0 0))])], [(.rcd 0 [(.si .i64), (.si .i64)])]⟩

def F2_L2_sh : LSh := ⟨(fun ex => match ex with | .norm => [(0, none), (1, none), (7, none), (8, none)] | .exit i => if i = 0 then [] else [] | .ret => [(4, none)]), [(0, (.one (.sl (.pair (.int .i64) (.int .i64)) false false))), (1, (.clo n_F33 [(.one (.pf 0 0 0))])), (7, (.one (.si .i64))), (8, (.one (.si .i64)))], [(.rcd 0 [(.si .i64), (.si .i64)])], [⟨.ret, [(4, (.one (.si .i64)))], [(.rcd 0 [(.si .i64), (.si .i64)])]⟩, ⟨(.exit 0), [], [(.rcd 0 [(.si .i64), (.si .i64)])]⟩], [], []⟩
noncomputable def F2_L2_step : ((List ((Int × Int)) × Unit × Int × Int) × (Int × Int)) → T (((List ((Int × Int)) × Unit × Int × Int) × (Int × Int)) ⊕ ((Int × (Int × Int)) ⊕ (Unit × (Int × Int)))) := fun ((s, (), t7, t8), (r0_0, r0_1)) =>
 (.test (decide (t8 < t7))
 (.test (decide ((0 ≤ t8) ∧ (t8 < ((List.length s) : Int))))
 (.sub (s[(Int.toNat t8)]?) fun z0 =>
 (.sub (F33 (((z0.1, z0.2), ()), (r0_0, r0_1))) fun z1 =>
 (.test z1.1
 (.ret (Sum.inr (Sum.inl (t8, (z1.2.1, z1.2.2)))))
 (.ret (Sum.inl ((s, ((), (t7, (w64 (t8 + 1))))), (z1.2.1, z1.2.2)))))))
 .fail)
 (.ret (Sum.inr (Sum.inr ((), (r0_0, r0_1))))))
noncomputable def F2_L2 (v : ((List ((Int × Int)) × Unit × Int × Int) × (Int × Int))) : Option ((Int × (Int × Int)) ⊕ (Unit × (Int × Int))) := loopO (fun v => (F2_L2_step v).run) v

def F2_fo : List FO := [⟨[(.one (.si .i64))], [(.rcd 0 [(.si .i64), (.si .i64)])]⟩]
noncomputable def F2_t : ((List ((Int × Int)) × Unit) × (Int × Int)) → T (Int × (Int × Int)) := fun ((s, ()), (r0_0, r0_1)) =>
 (.sub (F2_L2 ((s, ((), (((List.length s) : Int), (0 : Int)))), (r0_0, r0_1))) fun z0 =>
 (.test (Sum.isLeft z0)
 (.sub (Sum.getLeft? z0) fun z1 =>
 (.ret (z1.1, (z1.2.1, z1.2.2))))
 (.sub (Sum.getRight? z0) fun z2 =>
 (.ret ((-1), (z2.2.1, z2.2.2))))))
noncomputable def F2 (v : ((List ((Int × Int)) × Unit) × (Int × Int))) : Option (Int × (Int × Int)) := (F2_t v).run
noncomputable def F2_E : TEnv := (E0.add1 n_F33 F33_sh F33_fo F33)
theorem F2_Eok : (F2_E).OK := (E0ok.add1 F33_ok)
noncomputable def F2_told : Nat → Option SealT := fun id => if id = 2 then some (LSh.told F2_L2_sh 1 (F2_L2_step)) else none
theorem F2_L2_ok : ToldOK Try.prog 1 (loopAt (bodyOf fn_F8) [0]) (LSh.told F2_L2_sh 1 (F2_L2_step)) :=
  loop_ok (E := F2_E) (F2_Eok) (told := F2_told) (l := F2_L2_sh) (step := F2_L2_step) (loopsOK_of (ls := []) (by kernel_rfl) trivial) (by kernel_rfl) (fun v => by kernel_rfl)
theorem F2_ok : FOK Try.prog n_F8 F2_sh F2_fo F2 :=
  fn_ok (E := F2_E) (F2_Eok) (told := F2_told) (fl := []) (c := bodyOf fn_F8) (s := F2_sh) (l := F2_fo) (tree := F2_t) fnat_F8 (by kernel_rfl) (by kernel_rfl) (by kernel_rfl) (loopsOK_of (ls := [loopAt (bodyOf fn_F8) [0]]) (by kernel_rfl) ⟨.inr ⟨_, by kernel_rfl, F2_L2_ok⟩, trivial⟩) (fun v => by kernel_rfl)

def F0_sh : FSh := ⟨[(.one (.sl (.pair (.int .i64) (.int .i64)) false false)), (.clo n_F33 [(.one (.pf 0 0 0))])], [(.rcd 0 [(.si .i64), (.si .i64)])]⟩

def F0_fo : List FO := [⟨[(.one .sb)], [(.rcd 0 [(.si .i64), (.si .i64)])]⟩]
noncomputable def F0_t : ((List ((Int × Int)) × Unit) × (Int × Int)) → T (Bool × (Int × Int)) := fun ((s, ()), (r0_0, r0_1)) =>
 (.sub (F2 ((s, ()), (r0_0, r0_1))) fun z0 =>
 (.ret ((decide (z0.1 ≥ 0)), (z0.2.1, z0.2.2))))
noncomputable def F0 (v : ((List ((Int × Int)) × Unit) × (Int × Int))) : Option (Bool × (Int × Int)) := (F0_t v).run
noncomputable def F0_E : TEnv := (E0.add1 n_F8 F2_sh F2_fo F2)
theorem F0_Eok : (F0_E).OK := (E0ok.add1 F2_ok)
noncomputable def F0_told : Nat → Option SealT := fun id => none
theorem F0_ok : FOK Try.prog n_F5 F0_sh F0_fo F0 :=
  fn_ok (E := F0_E) (F0_Eok) (told := F0_told) (fl := []) (c := bodyOf fn_F5) (s := F0_sh) (l := F0_fo) (tree := F0_t) fnat_F5 (by kernel_rfl) (by kernel_rfl) (by kernel_rfl) (loopsOK_of (ls := []) (by kernel_rfl) trivial) (fun v => by kernel_rfl)

theorem F0_eq (s : List Dg) (d : Dg) (hl : s.length < 4611686018427387904) : F0 ((s, ()), d) = some (s.any (crossD d), d) := by
  obtain ⟨a, b⟩ := d
  have hc : ∀ e : Dg, F33 ((e, ()), (a, b)) = some (crossD (a, b) e, (a, b)) := by
    intro e
    obtain ⟨e0, e1⟩ := e
    simp [F33, F33_t, T.run, F40_eq]
  have h := loop_find (step := fun v => (F2_L2_step v).run) (xs := s) (crossD (a, b)) (fun k => ((s, ((), ((s.length : Int), (k : Int)))), (a, b))) (fun k => .inl ((k : Int), (a, b))) (.inr ((), (a, b)))
    (fun k x hx => by
      have hlt := getElem?_lt hx
      have h1 : (k : Int) < (s.length : Int) := by omega
      have h2 : (0 : Int) ≤ k ∧ (k : Int) < (s.length : Int) := by omega
      simp only [F2_L2_step, T.run, Int.toNat_natCast, hx, Option.bind_some, h1, h2, decide_true, if_true, and_self, hc]
      rw [w64_id (z := (k : Int) + 1) (by omega) (by omega)]
      cases hv : crossD (a, b) x <;> simp)
    (by simp [F2_L2_step, T.run])
  rw [show ((0 : Nat) : Int) = 0 from rfl] at h
  have hi : F2 ((s, ()), (a, b)) = some (idxI (crossD (a, b)) s, (a, b)) := by
    simp only [F2, F2_t, T.run, F2_L2]
    rw [h]
    simp only [idxI]
    cases hf : s.findIdx? (crossD (a, b)) <;> simp [Sum.isLeft]
  simp only [F0, F0_t, T.run, hi, Option.bind_some, idxI_ge]


def F41_sh : FSh := ⟨[(.one (.sl (.pair (.int .i64) (.int .i64)) false false)), (.ag [(.si .i64), (.si .i64)])], []⟩

def F41_fo : List FO := [⟨[(.one .sb)], []⟩]
noncomputable def F41_t : (List ((Int × Int)) × (Int × Int)) → T Bool := fun (ds, (d_0, d_1)) =>
 (.sub (F0 ((ds, ()), (d_0, d_1))) fun z0 =>
 (.ret z0.1))
noncomputable def F41 (v : (List ((Int × Int)) × (Int × Int))) : Option Bool := (F41_t v).run
noncomputable def F41_E : TEnv := (E0.add1 n_F5 F0_sh F0_fo F0)
theorem F41_Eok : (F41_E).OK := (E0ok.add1 F0_ok)
noncomputable def F41_told : Nat → Option SealT := fun id => none
theorem F41_ok : FOK Try.prog n_F41 F41_sh F41_fo F41 :=
  fn_ok (E := F41_E) (F41_Eok) (told := F41_told) (fl := []) (c := bodyOf fn_F41) (s := F41_sh) (l := F41_fo) (tree := F41_t) fnat_F41 (by kernel_rfl) (by kernel_rfl) (by kernel_rfl) (loopsOK_of (ls := []) (by kernel_rfl) trivial) (fun v => by kernel_rfl)

theorem F41_eq (s : List Dg) (d : Dg) (hl : s.length < 4611686018427387904) : F41 (s, d) = some (s.any (crossD d)) := by
  obtain ⟨a, b⟩ := d
  rw [F41, F41_t, T.run_sub, F0_eq s (a, b) hl, Option.bind_some, T.run_ret]


def F10_sh : FSh := ⟨[(.one (.sl (.pair (.int .i64) (.int .i64)) false false)), (.one (.pf 0 0 0)), (.one (.pf 1 0 0)), (.one (.pf 2 0 0)), (.one (.pf 3 0 0))], [(.rcd 0 [.sb]), (.rcd 0 [(.si .i64)]), (.rcd 0 [(.si .i64)]), (.rcd 0 [(.rw 4 0)]), (.row 0 (.pair (.int .i64) (.int .i64)))]⟩

def F10_w_fo : List FO := [⟨[], [(.rcd 0 [.sb]), (.rcd 0 [(.si .i64)]), (.rcd 0 [(.si .i64)]), (.rcd 0 [(.rw 5 0)]), (.row 0 (.pair (.int .i64) (.int .i64))), (.row 0 (.pair (.int .i64) (.int .i64)))]⟩, ⟨[], [(.rcd 0 [.sb]), (.rcd 0 [(.si .i64)]), (.rcd 0 [(.si .i64)]), (.rcd 0 [(.rw 4 0)]), (.row 0 (.pair (.int .i64) (.int .i64)))]⟩]
noncomputable def F10_t : ((List ((Int × Int)) × Unit × Unit × Unit × Unit) × (Bool × Int × Int × Unit × List ((Int × Int)))) → T ((Unit × (Bool × Int × Int × Unit × List ((Int × Int)) × List ((Int × Int)))) ⊕ (Unit × (Bool × Int × Int × Unit × List ((Int × Int))))) := fun ((ds, (), (), (), ()), (t1_0, t2_0, t3_0, (), t4_r)) =>
 (.test (! t1_0)
 (.sub (F39 (t2_0, (ds, t3_0))) fun z0 =>
 (.test z0
 (.sub (F9 ds) fun z1 =>
 (.test (decide ((0 = 0) ∧ ((List.length z1.2) = (List.length z1.2))))
 (.ret (Sum.inl ((), (true, (t2_0, (t3_0, ((), (t4_r, z1.2))))))))
 .fail))
 (.test (decide ((0 = 0) ∧ ((List.length t4_r) = (List.length t4_r))))
 (.ret (Sum.inr ((), (t1_0, (t2_0, (t3_0, ((), t4_r)))))))
 .fail)))
 (.test (decide ((0 = 0) ∧ ((List.length t4_r) = (List.length t4_r))))
 (.ret (Sum.inr ((), (t1_0, (t2_0, (t3_0, ((), t4_r)))))))
 .fail))
noncomputable def F10_w (v : ((List ((Int × Int)) × Unit × Unit × Unit × Unit) × (Bool × Int × Int × Unit × List ((Int × Int))))) : Option ((Unit × (Bool × Int × Int × Unit × List ((Int × Int)) × List ((Int × Int)))) ⊕ (Unit × (Bool × Int × Int × Unit × List ((Int × Int))))) := (F10_t v).run
noncomputable def F10_E : TEnv := ((E0.add1 n_F39 F39_sh F39_fo F39).add1 n_F9 F9_sh F9_fo F9)
theorem F10_Eok : (F10_E).OK := ((E0ok.add1 F39_ok).add1 F9_ok)
noncomputable def F10_told : Nat → Option SealT := fun id => none
theorem F10_w_ok : FOK Try.prog n_F14 F10_sh F10_w_fo F10_w :=
  fn_ok (E := F10_E) (F10_Eok) (told := F10_told) (fl := []) (c := bodyOf fn_F14) (s := F10_sh) (l := F10_w_fo) (tree := F10_t) fnat_F14 (by kernel_rfl) (by kernel_rfl) (by kernel_rfl) (loopsOK_of (ls := []) (by kernel_rfl) trivial) (fun v => by kernel_rfl)
def F10_fo : List FO := [⟨[], [(.rcd 0 [.sb]), (.rcd 0 [(.si .i64)]), (.rcd 0 [(.si .i64)]), (.rcd 0 [(.rw 4 1)]), (.row 1 (.pair (.int .i64) (.int .i64)))]⟩]
def F10_m : ((Unit × (Bool × Int × Int × Unit × List ((Int × Int)) × List ((Int × Int)))) ⊕ (Unit × (Bool × Int × Int × Unit × List ((Int × Int))))) → (Unit × (Bool × Int × Int × Unit × List ((Int × Int)))) := fun o => match o with | (.inl (a, (r0, r1, r2, r3, r4, r5))) => (a, (r0, r1, r2, r3, r5)) | (.inr (a, (r0, r1, r2, r3, r4))) => (a, (r0, r1, r2, r3, r4))
noncomputable def F10 (v : ((List ((Int × Int)) × Unit × Unit × Unit × Unit) × (Bool × Int × Int × Unit × List ((Int × Int))))) : Option (Unit × (Bool × Int × Int × Unit × List ((Int × Int)))) := (F10_w v).map F10_m
theorem F10_ok : FOK Try.prog n_F14 F10_sh F10_fo F10 :=
  FOK.take (l' := F10_fo) F10_w_ok 4 F10_m (fun o => match o with | (.inl (a, (r0, r1, r2, r3, r4, r5))) => .inr (by kernel_rfl) | (.inr (a, (r0, r1, r2, r3, r4))) => .inl (by kernel_rfl))

theorem F10_eq {N : Nat} {ds : List Dg} (size : Int) (h : isCut N ds = true) (fd : Bool) (r : List Dg) : F10 ((ds, ((), ((), ((), ())))), (fd, ((N : Int), (size, ((), r))))) = some ((), visO N size (vis N size (fd, r) ds)) := by
  rw [F10, F10_w, F10_t, T.run_test]
  cases fd with
  | true => rw [if_neg (by simp), T.run_test, if_pos (by simp), T.run_ret]; rfl
  | false =>
    rw [if_pos (by rfl), T.run_sub, isEq_cut size h, Option.bind_some, T.run_test]
    unfold vis
    cases (szL N ds).all fun x => x == size with
    | true => rw [if_pos rfl, T.run_sub, clone_D (cut_short h), Option.bind_some, T.run_test, if_pos (by simp), T.run_ret]; rfl
    | false => rw [if_neg (by simp), T.run_test, if_pos (by simp), T.run_ret]; rfl


def F4_sh : FSh := ⟨[(.one (.sl (.pair (.int .i64) (.int .i64)) false false)), (.one (.sl (.pair (.int .i64) (.int .i64)) false false)), (.one (.si .i64)), (.one (.si .i64)), (.clo n_F14 [(.one (.pf 0 0 0)), (.one (.pf 1 0 0)), (.one (.pf 2 0 0)), (.one (.pf 3 0 0))])], [(.rcd 0 [.sb]), (.rcd 0 [(.si .i64)]), (.rcd 0 [(.si .i64)]), (.rcd 0 [(.rw 4 0)]), (.row 0 (.pair (.int .i64) (.int .i64)))]⟩

def F4_fo : List FO := [⟨[], [(.rcd 0 [.sb]), (.rcd 0 [(.si .i64)]), (.rcd 0 [(.si .i64)]), (.rcd 0 [(.rw 4 1)]), (.row 1 (.pair (.int .i64) (.int .i64)))]⟩]

def F4_L3_sh : LSh := ⟨(fun ex => match ex with | .norm => [(0, none), (1, none), (3, none), (4, none), (10, none)] | .exit i => if i = 0 then [] else [] | .ret => []), [(0, (.one (.sl (.pair (.int .i64) (.int .i64)) false false))), (1, (.one (.sl (.pair (.int .i64) (.int .i64)) false false))), (3, (.one (.si .i64))), (4, (.clo n_F14 [(.one (.pf 0 0 0)), (.one (.pf 1 0 0)), (.one (.pf 2 0 0)), (.one (.pf 3 0 0))])), (10, (.one (.si .i64)))], [(.rcd 0 [.sb]), (.rcd 0 [(.si .i64)]), (.rcd 0 [(.si .i64)]), (.rcd 0 [(.rw 4 1)]), (.row 1 (.pair (.int .i64) (.int .i64)))], [⟨(.exit 0), [], [(.rcd 0 [.sb]), (.rcd 0 [(.si .i64)]), (.rcd 0 [(.si .i64)]), (.rcd 0 [(.rw 4 1)]), (.row 1 (.pair (.int .i64) (.int .i64)))]⟩], [], [4]⟩
noncomputable def F4_L3_step (recv : ((List ((Int × Int)) × List ((Int × Int)) × Int × Int × (Unit × Unit × Unit × Unit)) × (Bool × Int × Int × Unit × List ((Int × Int)))) → Option (Unit × (Bool × Int × Int × Unit × List ((Int × Int))))) : ((List ((Int × Int)) × List ((Int × Int)) × Int × (Unit × Unit × Unit × Unit) × Int) × (Bool × Int × Int × Unit × List ((Int × Int)))) → T (((List ((Int × Int)) × List ((Int × Int)) × Int × (Unit × Unit × Unit × Unit) × Int) × (Bool × Int × Int × Unit × List ((Int × Int)))) ⊕ (Unit × (Bool × Int × Int × Unit × List ((Int × Int))))) := fun ((all, begin, more, ((), (), (), ()), i), (r0_0, r1_0, r2_0, (), r3_r)) =>
 (.test (decide (i < ((List.length all) : Int)))
 (.test (decide ((0 ≤ i) ∧ (i < ((List.length all) : Int))))
 (.sub (all[(Int.toNat i)]?) fun z0 =>
 (.sub (F41 (begin, z0)) fun z1 =>
 (.test (! z1)
 (.test (decide (0 ≤ ((List.length begin) : Int)))
 (.test (decide (0 ≤ ((List.length begin) : Int)))
 (.test (decide ((0 ≤ (Int.toNat ((List.length begin) : Int))) ∧ (((Int.toNat ((List.length begin) : Int)) = (Int.toNat ((List.length begin) : Int))) ∧ ((Int.toNat ((List.length begin) : Int)) ≤ (List.length begin)))))
 (.test (decide ((0 ≤ i) ∧ (i < ((List.length all) : Int))))
 (.sub (all[(Int.toNat i)]?) fun z2 =>
 (.test (decide (1 ≤ 1))
 (.test (decide (¬ ((1 = 0) ∧ ((List.length (win begin 0 ((Int.toNat ((List.length begin) : Int)) - 0))) ≠ 0))))
 (.test (decide ((2 * (((List.length (win begin 0 ((Int.toNat ((List.length begin) : Int)) - 0))) + 1) * (16 + 1))) ≤ 140737488355328))
 (.test (decide ((0 + ((List.length (win begin 0 ((Int.toNat ((List.length begin) : Int)) - 0))) + 1)) ≤ (List.length ((win begin 0 ((Int.toNat ((List.length begin) : Int)) - 0)) ++ [z2]))))
 (.test (decide ((0 = 0) ∧ ((List.length r3_r) = (List.length r3_r))))
 (.sub (recv ((all, ((win ((win begin 0 ((Int.toNat ((List.length begin) : Int)) - 0)) ++ [z2]) 0 ((List.length (win begin 0 ((Int.toNat ((List.length begin) : Int)) - 0))) + 1)), ((w64 (i + 1)), ((w64 (more - 1)), ((), ((), ((), ()))))))), (r0_0, (r1_0, (r2_0, ((), r3_r)))))) fun z3 =>
 (.test (decide ((0 = 0) ∧ ((List.length z3.2.2.2.2.2) = (List.length z3.2.2.2.2.2))))
 (.ret (Sum.inl ((all, (begin, (more, (((), ((), ((), ()))), (w64 (i + 1)))))), (z3.2.1, (z3.2.2.1, (z3.2.2.2.1, ((), z3.2.2.2.2.2)))))))
 .fail))
 .fail)
 .fail)
 .fail)
 .fail)
 .fail))
 .fail)
 .fail)
 .fail)
 .fail)
 (.test (decide ((0 = 0) ∧ ((List.length r3_r) = (List.length r3_r))))
 (.ret (Sum.inl ((all, (begin, (more, (((), ((), ((), ()))), (w64 (i + 1)))))), (r0_0, (r1_0, (r2_0, ((), r3_r)))))))
 .fail))))
 .fail)
 (.test (decide ((0 = 0) ∧ ((List.length r3_r) = (List.length r3_r))))
 (.ret (Sum.inr ((), (r0_0, (r1_0, (r2_0, ((), r3_r)))))))
 .fail))
noncomputable def F4_L3 (recv : ((List ((Int × Int)) × List ((Int × Int)) × Int × Int × (Unit × Unit × Unit × Unit)) × (Bool × Int × Int × Unit × List ((Int × Int)))) → Option (Unit × (Bool × Int × Int × Unit × List ((Int × Int))))) (v : ((List ((Int × Int)) × List ((Int × Int)) × Int × (Unit × Unit × Unit × Unit) × Int) × (Bool × Int × Int × Unit × List ((Int × Int))))) : Option (Unit × (Bool × Int × Int × Unit × List ((Int × Int)))) := loopO (fun v => (F4_L3_step recv v).run) v

noncomputable def F4_t (recv : ((List ((Int × Int)) × List ((Int × Int)) × Int × Int × (Unit × Unit × Unit × Unit)) × (Bool × Int × Int × Unit × List ((Int × Int)))) → Option (Unit × (Bool × Int × Int × Unit × List ((Int × Int))))) : ((List ((Int × Int)) × List ((Int × Int)) × Int × Int × (Unit × Unit × Unit × Unit)) × (Bool × Int × Int × Unit × List ((Int × Int)))) → T (Unit × (Bool × Int × Int × Unit × List ((Int × Int)))) := fun ((all, begin, from', more, ((), (), (), ())), (r0_0, r1_0, r2_0, (), r3_r)) =>
 (.test (more == 0)
 (.test (decide ((0 = 0) ∧ ((List.length r3_r) = (List.length r3_r))))
 (.sub (F10 ((begin, ((), ((), ((), ())))), (r0_0, (r1_0, (r2_0, ((), r3_r)))))) fun z0 =>
 (.test (decide ((0 = 0) ∧ ((List.length z0.2.2.2.2.2) = (List.length z0.2.2.2.2.2))))
 (.ret ((), (z0.2.1, (z0.2.2.1, (z0.2.2.2.1, ((), z0.2.2.2.2.2))))))
 .fail))
 .fail)
 (.test (decide ((0 = 0) ∧ ((List.length r3_r) = (List.length r3_r))))
 (.sub (F4_L3 recv ((all, (begin, (more, (((), ((), ((), ()))), from')))), (r0_0, (r1_0, (r2_0, ((), r3_r)))))) fun z1 =>
 (.test (decide ((0 = 0) ∧ ((List.length z1.2.2.2.2.2) = (List.length z1.2.2.2.2.2))))
 (.ret ((), (z1.2.1, (z1.2.2.1, (z1.2.2.2.1, ((), z1.2.2.2.2.2))))))
 .fail))
 .fail))
noncomputable def F4_f (recv : ((List ((Int × Int)) × List ((Int × Int)) × Int × Int × (Unit × Unit × Unit × Unit)) × (Bool × Int × Int × Unit × List ((Int × Int)))) → Option (Unit × (Bool × Int × Int × Unit × List ((Int × Int))))) (v : ((List ((Int × Int)) × List ((Int × Int)) × Int × Int × (Unit × Unit × Unit × Unit)) × (Bool × Int × Int × Unit × List ((Int × Int))))) : Option (Unit × (Bool × Int × Int × Unit × List ((Int × Int)))) := (F4_t recv v).run
noncomputable def F4 : ((List ((Int × Int)) × List ((Int × Int)) × Int × Int × (Unit × Unit × Unit × Unit)) × (Bool × Int × Int × Unit × List ((Int × Int)))) → Option (Unit × (Bool × Int × Int × Unit × List ((Int × Int)))) := recF F4_f
noncomputable def F4_E (recv : ((List ((Int × Int)) × List ((Int × Int)) × Int × Int × (Unit × Unit × Unit × Unit)) × (Bool × Int × Int × Unit × List ((Int × Int)))) → Option (Unit × (Bool × Int × Int × Unit × List ((Int × Int))))) : TEnv := (((E0.add1 n_F14 F10_sh F10_fo F10).add1 n_F41 F41_sh F41_fo F41).add1 n_F65 F4_sh F4_fo recv)
theorem F4_Eok (recv : ((List ((Int × Int)) × List ((Int × Int)) × Int × Int × (Unit × Unit × Unit × Unit)) × (Bool × Int × Int × Unit × List ((Int × Int)))) → Option (Unit × (Bool × Int × Int × Unit × List ((Int × Int))))) (hrec : FOK Try.prog n_F65 F4_sh F4_fo recv) : (F4_E recv).OK := (((E0ok.add1 F10_ok).add1 F41_ok).add1 hrec)
noncomputable def F4_told (recv : ((List ((Int × Int)) × List ((Int × Int)) × Int × Int × (Unit × Unit × Unit × Unit)) × (Bool × Int × Int × Unit × List ((Int × Int)))) → Option (Unit × (Bool × Int × Int × Unit × List ((Int × Int))))) : Nat → Option SealT := fun id => if id = 3 then some (LSh.told F4_L3_sh 5 (F4_L3_step recv)) else none
theorem F4_L3_ok (recv : ((List ((Int × Int)) × List ((Int × Int)) × Int × Int × (Unit × Unit × Unit × Unit)) × (Bool × Int × Int × Unit × List ((Int × Int)))) → Option (Unit × (Bool × Int × Int × Unit × List ((Int × Int))))) (hrec : FOK Try.prog n_F65 F4_sh F4_fo recv) : ToldOK Try.prog 5 (loopAt (bodyOf fn_F65) [0]) (LSh.told F4_L3_sh 5 (F4_L3_step recv)) :=
  loop_ok (E := F4_E recv) (F4_Eok recv hrec) (told := F4_told recv) (l := F4_L3_sh) (step := F4_L3_step recv) (loopsOK_of (ls := []) (by kernel_rfl) trivial) (by kernel_rfl) (fun v => by kernel_rfl)
theorem F4_okr (recv : ((List ((Int × Int)) × List ((Int × Int)) × Int × Int × (Unit × Unit × Unit × Unit)) × (Bool × Int × Int × Unit × List ((Int × Int)))) → Option (Unit × (Bool × Int × Int × Unit × List ((Int × Int))))) (hrec : FOK Try.prog n_F65 F4_sh F4_fo recv) : FOK Try.prog n_F65 F4_sh F4_fo (F4_f recv) :=
  fn_ok (E := F4_E recv) (F4_Eok recv hrec) (told := F4_told recv) (fl := []) (c := bodyOf fn_F65) (s := F4_sh) (l := F4_fo) (tree := F4_t recv) fnat_F65 (by kernel_rfl) (by kernel_rfl) (by kernel_rfl) (loopsOK_of (ls := [loopAt (bodyOf fn_F65) [0]]) (by kernel_rfl) ⟨.inr ⟨_, by kernel_rfl, F4_L3_ok recv hrec⟩, trivial⟩) (fun v => by kernel_rfl)
theorem F4_ok : FOK Try.prog n_F65 F4_sh F4_fo F4 := FOK.rec (fun F h => F4_okr F h) recLim

theorem F4_loop (N : Nat) (size : Int) (K : Nat) (t b : List Dg) (recv : _ → Option _) (hn : b.length < K ∧ K ≤ 1000) (ht : t.length ≤ 27) (hb : b.length < 1000) :
    ∀ (m i : Nat) (fd : Bool) (r : List Dg), i + m = t.length → (∀ ds ∈ goL K (t.drop i) b, isCut N ds = true) →
    (∀ (j : Nat) (fd : Bool) (r : List Dg), i ≤ j → j < t.length → (∀ ds ∈ lookL K (t.drop (j + 1)) (b ++ [gD t j]), isCut N ds = true) →
      recv ((t, (b ++ [gD t j], (((j + 1 : Nat) : Int), (((K - (b.length + 1) : Nat) : Int), ((), ((), ((), ()))))))), (fd, ((N : Int), (size, ((), r))))) = some ((), visO N size ((lookL K (t.drop (j + 1)) (b ++ [gD t j])).foldl (vis N size) (fd, r)))) →
    F4_L3 recv ((t, (b, (((K - b.length : Nat) : Int), (((), ((), ((), ()))), (i : Int))))), (fd, ((N : Int), (size, ((), r))))) = some ((), visO N size ((goL K (t.drop i) b).foldl (vis N size) (fd, r)))
  | 0, i, fd, r, hi, hcut, hr => by
    have : i = t.length := by omega
    subst this
    rw [List.drop_length]
    refine loopO_done ?_
    rw [F4_L3_step, T.run_test, if_neg (by rw [decide_eq_true_eq]; omega), T.run_test, if_pos (by simp), T.run_ret]
    rfl
  | m + 1, i, fd, r, hi, hcut, hr => by
    have hlt : i < t.length := by omega
    have w1 : w64 ((i : Int) + 1) = ((i + 1 : Nat) : Int) := by rw [w64_id (by omega) (by omega)]; omega
    have wl : w64 (((K - b.length : Nat) : Int) - 1) = ((K - (b.length + 1) : Nat) : Int) := by rw [w64_id (by omega) (by omega)]; omega
    have hcr := F41_eq b (gD t i) (by omega)
    have eg : goL K (t.drop i) b = (if freeD (gD t i) b then lookL K (t.drop (i + 1)) (b ++ [gD t i]) else []) ++ goL K (t.drop (i + 1)) b := by rw [drop_gD hlt, goL_cons]
    rw [eg] at hcut ⊢
    have hcut2 : ∀ ds ∈ goL K (t.drop (i + 1)) b, isCut N ds = true := fun ds hds => hcut ds (List.mem_append_right _ hds)
    rw [List.foldl_append]
    cases hf : b.any (crossD (gD t i)) with
    | true =>
      have hfr : freeD (gD t i) b = false := by unfold freeD; rw [hf]; rfl
      have ih := F4_loop N size K t b recv hn ht hb m (i + 1) fd r (by omega) hcut2 (fun j fd r h1 h2 h3 => hr j fd r (by omega) h2 h3)
      rw [hfr]
      simp only [Bool.false_eq_true, if_false, List.foldl_nil]
      rw [← ih]
      rw [hf] at hcr
      refine loopO_next ?_
      rw [F4_L3_step, T.run_test, if_pos (decide_eq_true (by omega)), T.run_test, if_pos (decide_eq_true (by omega)), T.run_sub, Int.toNat_natCast, gD_some hlt, Option.bind_some, T.run_sub, hcr, Option.bind_some, T.run_test, if_neg (by simp), T.run_test, if_pos (by simp), T.run_ret, w1]
    | false =>
      have hfr : freeD (gD t i) b = true := by unfold freeD; rw [hf]; rfl
      rw [hfr] at hcut
      rw [hfr]
      simp only [if_true] at hcut ⊢
      have hrec := hr i fd r (Nat.le_refl _) hlt (fun ds hds => hcut ds (List.mem_append_left _ hds))
      generalize hs : (lookL K (t.drop (i + 1)) (b ++ [gD t i])).foldl (vis N size) (fd, r) = s at hrec ⊢
      obtain ⟨fd2, r2⟩ := s
      have ih := F4_loop N size K t b recv hn ht hb m (i + 1) fd2 r2 (by omega) hcut2 (fun j fd r h1 h2 h3 => hr j fd r (by omega) h2 h3)
      rw [← ih]
      rw [hf] at hcr
      refine loopO_next ?_
      have hw : win (b ++ [gD t i]) 0 (b.length + 1) = b ++ [gD t i] := by
        have := win_all (b ++ [gD t i])
        rwa [List.length_append, List.length_singleton] at this
      rw [F4_L3_step, T.run_test, if_pos (decide_eq_true (by omega)), T.run_test, if_pos (decide_eq_true (by omega)), T.run_sub, Int.toNat_natCast, gD_some hlt, Option.bind_some, T.run_sub, hcr, Option.bind_some, T.run_test, if_pos (by rfl), T.run_test, if_pos (decide_eq_true (by omega)), T.run_test, if_pos (decide_eq_true (by omega)), T.run_test, if_pos (decide_eq_true (by omega)), T.run_test, if_pos (decide_eq_true (by omega)), T.run_sub]
      rw [Int.toNat_natCast, Nat.sub_zero, win_all, Option.bind_some, T.run_test, if_pos (by rfl), T.run_test, if_pos (by simp), T.run_test, if_pos (decide_eq_true (by omega)), T.run_test, if_pos (by simp), T.run_test, if_pos (by simp), T.run_sub, hw, w1, wl, hrec, Option.bind_some, T.run_test, if_pos (by simp), T.run_ret]
      rfl
theorem cuts_fe2 (N : Nat) (size : Int) (K : Nat) (hK : K ≤ 1000) (t : List Dg) (ht : t.length ≤ 27) : ∀ (k i : Nat) (b : List Dg) (fd : Bool) (r : List Dg), i ≤ t.length → t.length - i < k → b.length + (t.length - i) < 100 → b.length ≤ K → (∀ ds ∈ lookL K (t.drop i) b, isCut N ds = true) →
    recN F4_f k ((t, (b, ((i : Int), (((K - b.length : Nat) : Int), ((), ((), ((), ()))))))), (fd, ((N : Int), (size, ((), r))))) = some ((), visO N size ((lookL K (t.drop i) b).foldl (vis N size) (fd, r)))
  | 0, i, b, fd, r, hi, hk, hb, hbK, hcut => absurd hk (Nat.not_lt_zero _)
  | k + 1, i, b, fd, r, hi, hk, hb, hbK, hcut => by
    show F4_f (recN F4_f k) _ = _
    rw [F4_f, F4_t, T.run_test]
    by_cases hl : b.length = K
    · have e : lookL K (t.drop i) b = [b] := by unfold lookL; rw [if_pos hl]
      rw [e] at hcut ⊢
      rw [if_pos (by simp; omega), T.run_test, if_pos (by simp), T.run_sub, F10_eq size (hcut b (by simp)), Option.bind_some, T.run_test, if_pos (by simp), T.run_ret]
      rfl
    · have e : lookL K (t.drop i) b = goL K (t.drop i) b := by unfold lookL; rw [if_neg hl]
      rw [e] at hcut ⊢
      have h3 := F4_loop N size K t b (recN F4_f k) ⟨by omega, hK⟩ ht (by omega) (t.length - i) i fd r (by omega) hcut (fun j fd r h1 h2 h3 => by
        have := cuts_fe2 N size K hK t ht k (j + 1) (b ++ [gD t j]) fd r (by omega) (by omega) (by rw [List.length_append, List.length_singleton]; omega) (by rw [List.length_append, List.length_singleton]; omega) h3
        rwa [List.length_append, List.length_singleton] at this)
      rw [if_neg (by simp; omega), T.run_test, if_pos (by simp), T.run_sub, h3, Option.bind_some, T.run_test, if_pos (by simp), T.run_ret]


def F7_sh : FSh := ⟨[(.one (.sl (.pair (.int .i64) (.int .i64)) false false)), (.one (.sl (.pair (.int .i64) (.int .i64)) false false)), (.one (.si .i64)), (.one (.si .i64)), (.clo n_F14 [(.one (.pf 0 0 0)), (.one (.pf 1 0 0)), (.one (.pf 2 0 0)), (.one (.pf 3 0 0))])], [(.rcd 0 [.sb]), (.rcd 0 [(.si .i64)]), (.rcd 0 [(.si .i64)]), (.rcd 0 [(.nl true true)])]⟩

def F7_L3_sh : LSh := ⟨(fun ex => match ex with | .norm => [(0, none), (1, none), (3, none), (4, none), (10, none)] | .exit i => if i = 0 then [] else [] | .ret => []), [(0, (.one (.sl (.pair (.int .i64) (.int .i64)) false false))), (1, (.one (.sl (.pair (.int .i64) (.int .i64)) false false))), (3, (.one (.si .i64))), (4, (.clo n_F14 [(.one (.pf 0 0 0)), (.one (.pf 1 0 0)), (.one (.pf 2 0 0)), (.one (.pf 3 0 0))])), (10, (.one (.si .i64)))], [(.rcd 0 [.sb]), (.rcd 0 [(.si .i64)]), (.rcd 0 [(.si .i64)]), (.rcd 0 [(.rw 4 0)]), (.row 0 (.pair (.int .i64) (.int .i64)))], [⟨(.exit 0), [], [(.rcd 0 [.sb]), (.rcd 0 [(.si .i64)]), (.rcd 0 [(.si .i64)]), (.rcd 0 [(.rw 4 0)]), (.row 0 (.pair (.int .i64) (.int .i64)))]⟩], [(3, 0, (.pair (.int .i64) (.int .i64)))], []⟩
noncomputable def F7_L3_step : ((List ((Int × Int)) × List ((Int × Int)) × Int × (Unit × Unit × Unit × Unit) × Int) × (Bool × Int × Int × Unit × List ((Int × Int)))) → T (((List ((Int × Int)) × List ((Int × Int)) × Int × (Unit × Unit × Unit × Unit) × Int) × (Bool × Int × Int × Unit × List ((Int × Int)))) ⊕ (Unit × (Bool × Int × Int × Unit × List ((Int × Int))))) := fun ((all, begin, more, ((), (), (), ()), i), (r0_0, r1_0, r2_0, (), r3_r)) =>
 (.test (decide (i < ((List.length all) : Int)))
 (.test (decide ((0 ≤ i) ∧ (i < ((List.length all) : Int))))
 (.sub (all[(Int.toNat i)]?) fun z0 =>
 (.sub (F41 (begin, z0)) fun z1 =>
 (.test (! z1)
 (.test (decide (0 ≤ ((List.length begin) : Int)))
 (.test (decide (0 ≤ ((List.length begin) : Int)))
 (.test (decide ((0 ≤ (Int.toNat ((List.length begin) : Int))) ∧ (((Int.toNat ((List.length begin) : Int)) = (Int.toNat ((List.length begin) : Int))) ∧ ((Int.toNat ((List.length begin) : Int)) ≤ (List.length begin)))))
 (.test (decide ((0 ≤ i) ∧ (i < ((List.length all) : Int))))
 (.sub (all[(Int.toNat i)]?) fun z2 =>
 (.test (decide (1 ≤ 1))
 (.test (decide (¬ ((1 = 0) ∧ ((List.length (win begin 0 ((Int.toNat ((List.length begin) : Int)) - 0))) ≠ 0))))
 (.test (decide ((2 * (((List.length (win begin 0 ((Int.toNat ((List.length begin) : Int)) - 0))) + 1) * 17)) ≤ 140737488355328))
 (.test (decide ((0 + ((List.length (win begin 0 ((Int.toNat ((List.length begin) : Int)) - 0))) + 1)) ≤ (List.length ((win begin 0 ((Int.toNat ((List.length begin) : Int)) - 0)) ++ [z2]))))
 (.test (decide ((0 = 0) ∧ ((List.length r3_r) = (List.length r3_r))))
 (.sub (F4 ((all, ((win ((win begin 0 ((Int.toNat ((List.length begin) : Int)) - 0)) ++ [z2]) 0 ((List.length (win begin 0 ((Int.toNat ((List.length begin) : Int)) - 0))) + 1)), ((w64 (i + 1)), ((w64 (more - 1)), ((), ((), ((), ()))))))), (r0_0, (r1_0, (r2_0, ((), r3_r)))))) fun z3 =>
 (.test (decide ((0 = 0) ∧ ((List.length z3.2.2.2.2.2) = (List.length z3.2.2.2.2.2))))
 (.ret (Sum.inl ((all, (begin, (more, (((), ((), ((), ()))), (w64 (i + 1)))))), (z3.2.1, (z3.2.2.1, (z3.2.2.2.1, ((), z3.2.2.2.2.2)))))))
 .fail))
 .fail)
 .fail)
 .fail)
 .fail)
 .fail))
 .fail)
 .fail)
 .fail)
 .fail)
 (.test (decide ((0 = 0) ∧ ((List.length r3_r) = (List.length r3_r))))
 (.ret (Sum.inl ((all, (begin, (more, (((), ((), ((), ()))), (w64 (i + 1)))))), (r0_0, (r1_0, (r2_0, ((), r3_r)))))))
 .fail))))
 .fail)
 (.test (decide ((0 = 0) ∧ ((List.length r3_r) = (List.length r3_r))))
 (.ret (Sum.inr ((), (r0_0, (r1_0, (r2_0, ((), r3_r)))))))
 .fail))
noncomputable def F7_L3 (v : ((List ((Int × Int)) × List ((Int × Int)) × Int × (Unit × Unit × Unit × Unit) × Int) × (Bool × Int × Int × Unit × List ((Int × Int))))) : Option (Unit × (Bool × Int × Int × Unit × List ((Int × Int)))) := loopO (fun v => (F7_L3_step v).run) v

def F7_fo : List FO := [⟨[], [(.rcd 0 [.sb]), (.rcd 0 [(.si .i64)]), (.rcd 0 [(.si .i64)]), (.rcd 0 [(.rw 4 0)]), (.row 0 (.pair (.int .i64) (.int .i64)))]⟩, ⟨[], [(.rcd 0 [.sb]), (.rcd 0 [(.si .i64)]), (.rcd 0 [(.si .i64)]), (.rcd 0 [(.nl true true)])]⟩]
noncomputable def F7_t : ((List ((Int × Int)) × List ((Int × Int)) × Int × Int × (Unit × Unit × Unit × Unit)) × (Bool × Int × Int × Unit)) → T ((Unit × (Bool × Int × Int × Unit × List ((Int × Int)))) ⊕ (Unit × (Bool × Int × Int × Unit))) := fun ((all, begin, from', more, ((), (), (), ())), (r0_0, r1_0, r2_0, ())) =>
 (.test (more == 0)
 (.sub (F14 ((begin, ((), ((), ((), ())))), (r0_0, (r1_0, (r2_0, ()))))) fun z0 =>
 (.test (Sum.isLeft z0)
 (.sub (Sum.getLeft? z0) fun z1 =>
 (.test (decide ((0 = 0) ∧ ((List.length z1.2.2.2.2.2) = (List.length z1.2.2.2.2.2))))
 (.ret (Sum.inl ((), (z1.2.1, (z1.2.2.1, (z1.2.2.2.1, ((), z1.2.2.2.2.2)))))))
 .fail))
 (.sub (Sum.getRight? z0) fun z2 =>
 (.ret (Sum.inr ((), (z2.2.1, (z2.2.2.1, (z2.2.2.2.1, ())))))))))
 (.test (decide ((0 = 0) ∧ (0 = (List.length ([] : List (Int × Int))))))
 (.sub (F7_L3 ((all, (begin, (more, (((), ((), ((), ()))), from')))), (r0_0, (r1_0, (r2_0, ((), ([] : List (Int × Int)))))))) fun z3 =>
 (.test (decide ((0 = 0) ∧ ((List.length z3.2.2.2.2.2) = (List.length z3.2.2.2.2.2))))
 (.ret (Sum.inl ((), (z3.2.1, (z3.2.2.1, (z3.2.2.2.1, ((), z3.2.2.2.2.2)))))))
 .fail))
 .fail))
noncomputable def F7 (v : ((List ((Int × Int)) × List ((Int × Int)) × Int × Int × (Unit × Unit × Unit × Unit)) × (Bool × Int × Int × Unit))) : Option ((Unit × (Bool × Int × Int × Unit × List ((Int × Int)))) ⊕ (Unit × (Bool × Int × Int × Unit))) := (F7_t v).run
noncomputable def F7_E : TEnv := (((E0.add1 n_F14 F14_sh F14_fo F14).add1 n_F41 F41_sh F41_fo F41).add1 n_F65 F4_sh F4_fo F4)
theorem F7_Eok : (F7_E).OK := (((E0ok.add1 F14_ok).add1 F41_ok).add1 F4_ok)
noncomputable def F7_told : Nat → Option SealT := fun id => if id = 3 then some (LSh.told F7_L3_sh 4 (F7_L3_step)) else none
theorem F7_L3_ok : ToldOK Try.prog 4 (loopAt (bodyOf fn_F65) [0]) (LSh.told F7_L3_sh 4 (F7_L3_step)) :=
  loop_ok (E := F7_E) (F7_Eok) (told := F7_told) (l := F7_L3_sh) (step := F7_L3_step) (loopsOK_of (ls := []) (by kernel_rfl) trivial) (by kernel_rfl) (fun v => by kernel_rfl)
theorem F7_ok : FOK Try.prog n_F65 F7_sh F7_fo F7 :=
  fn_ok (E := F7_E) (F7_Eok) (told := F7_told) (fl := []) (c := bodyOf fn_F65) (s := F7_sh) (l := F7_fo) (tree := F7_t) fnat_F65 (by kernel_rfl) (by kernel_rfl) (by kernel_rfl) (loopsOK_of (ls := [loopAt (bodyOf fn_F65) [0]]) (by kernel_rfl) ⟨.inr ⟨_, by kernel_rfl, F7_L3_ok⟩, trivial⟩) (fun v => by kernel_rfl)

theorem F7_loop (N : Nat) (size : Int) (K : Nat) (t b : List Dg) (hn : b.length < K ∧ K ≤ 1000) (ht : t.length ≤ 27) (hb : b.length < 1000) :
    ∀ (m i : Nat) (fd : Bool) (r : List Dg), i + m = t.length → (∀ ds ∈ goL K (t.drop i) b, isCut N ds = true) →
    (∀ (j : Nat) (fd : Bool) (r : List Dg), i ≤ j → j < t.length → (∀ ds ∈ lookL K (t.drop (j + 1)) (b ++ [gD t j]), isCut N ds = true) →
      F4 ((t, (b ++ [gD t j], (((j + 1 : Nat) : Int), (((K - (b.length + 1) : Nat) : Int), ((), ((), ((), ()))))))), (fd, ((N : Int), (size, ((), r))))) = some ((), visO N size ((lookL K (t.drop (j + 1)) (b ++ [gD t j])).foldl (vis N size) (fd, r)))) →
    F7_L3 ((t, (b, (((K - b.length : Nat) : Int), (((), ((), ((), ()))), (i : Int))))), (fd, ((N : Int), (size, ((), r))))) = some ((), visO N size ((goL K (t.drop i) b).foldl (vis N size) (fd, r)))
  | 0, i, fd, r, hi, hcut, hr => by
    have : i = t.length := by omega
    subst this
    rw [List.drop_length]
    refine loopO_done ?_
    rw [F7_L3_step, T.run_test, if_neg (by rw [decide_eq_true_eq]; omega), T.run_test, if_pos (by simp), T.run_ret]
    rfl
  | m + 1, i, fd, r, hi, hcut, hr => by
    have hlt : i < t.length := by omega
    have w1 : w64 ((i : Int) + 1) = ((i + 1 : Nat) : Int) := by rw [w64_id (by omega) (by omega)]; omega
    have wl : w64 (((K - b.length : Nat) : Int) - 1) = ((K - (b.length + 1) : Nat) : Int) := by rw [w64_id (by omega) (by omega)]; omega
    have hcr := F41_eq b (gD t i) (by omega)
    have eg : goL K (t.drop i) b = (if freeD (gD t i) b then lookL K (t.drop (i + 1)) (b ++ [gD t i]) else []) ++ goL K (t.drop (i + 1)) b := by rw [drop_gD hlt, goL_cons]
    rw [eg] at hcut ⊢
    have hcut2 : ∀ ds ∈ goL K (t.drop (i + 1)) b, isCut N ds = true := fun ds hds => hcut ds (List.mem_append_right _ hds)
    rw [List.foldl_append]
    cases hf : b.any (crossD (gD t i)) with
    | true =>
      have hfr : freeD (gD t i) b = false := by unfold freeD; rw [hf]; rfl
      have ih := F7_loop N size K t b hn ht hb m (i + 1) fd r (by omega) hcut2 (fun j fd r h1 h2 h3 => hr j fd r (by omega) h2 h3)
      rw [hfr]
      simp only [Bool.false_eq_true, if_false, List.foldl_nil]
      rw [← ih]
      rw [hf] at hcr
      refine loopO_next ?_
      rw [F7_L3_step, T.run_test, if_pos (decide_eq_true (by omega)), T.run_test, if_pos (decide_eq_true (by omega)), T.run_sub, Int.toNat_natCast, gD_some hlt, Option.bind_some, T.run_sub, hcr, Option.bind_some, T.run_test, if_neg (by simp), T.run_test, if_pos (by simp), T.run_ret, w1]
    | false =>
      have hfr : freeD (gD t i) b = true := by unfold freeD; rw [hf]; rfl
      rw [hfr] at hcut
      rw [hfr]
      simp only [if_true] at hcut ⊢
      have hrec := hr i fd r (Nat.le_refl _) hlt (fun ds hds => hcut ds (List.mem_append_left _ hds))
      generalize hs : (lookL K (t.drop (i + 1)) (b ++ [gD t i])).foldl (vis N size) (fd, r) = s at hrec ⊢
      obtain ⟨fd2, r2⟩ := s
      have ih := F7_loop N size K t b hn ht hb m (i + 1) fd2 r2 (by omega) hcut2 (fun j fd r h1 h2 h3 => hr j fd r (by omega) h2 h3)
      rw [← ih]
      rw [hf] at hcr
      refine loopO_next ?_
      have hw : win (b ++ [gD t i]) 0 (b.length + 1) = b ++ [gD t i] := by
        have := win_all (b ++ [gD t i])
        rwa [List.length_append, List.length_singleton] at this
      rw [F7_L3_step, T.run_test, if_pos (decide_eq_true (by omega)), T.run_test, if_pos (decide_eq_true (by omega)), T.run_sub, Int.toNat_natCast, gD_some hlt, Option.bind_some, T.run_sub, hcr, Option.bind_some, T.run_test, if_pos (by rfl), T.run_test, if_pos (decide_eq_true (by omega)), T.run_test, if_pos (decide_eq_true (by omega)), T.run_test, if_pos (decide_eq_true (by omega)), T.run_test, if_pos (decide_eq_true (by omega)), T.run_sub]
      rw [Int.toNat_natCast, Nat.sub_zero, win_all, Option.bind_some, T.run_test, if_pos (by rfl), T.run_test, if_pos (by simp), T.run_test, if_pos (decide_eq_true (by omega)), T.run_test, if_pos (by simp), T.run_test, if_pos (by simp), T.run_sub, hw, w1, wl, hrec, Option.bind_some, T.run_test, if_pos (by simp), T.run_ret]
      rfl
theorem cuts_fe1 (N : Nat) (size : Int) (K : Nat) (hK : K ≤ 40) (t : List Dg) (ht : t.length ≤ 27) (hcut : ∀ ds ∈ lookL K t [], isCut N ds = true) : ∃ z, F7 ((t, ([], ((0 : Int), ((K : Int), ((), ((), ((), ()))))))), (false, ((N : Int), (size, ())))) = some z ∧
    match z with
    | .inl (_, (fd, (_, (_, (_, r))))) => (fd, r) = (lookL K t []).foldl (vis N size) (false, [])
    | .inr (_, (fd, _)) => (fd, []) = (lookL K t []).foldl (vis N size) (false, []) := by
  rw [F7, F7_t, T.run_test]
  by_cases hl : K = 0
  · subst hl
    have e : lookL 0 t [] = [[]] := rfl
    rw [e] at hcut ⊢
    rw [if_pos (by rfl), T.run_sub, F14_eq size (hcut [] (by simp)), Option.bind_some, T.run_test]
    have ev : ([[]] : List (List Dg)).foldl (vis N size) (false, []) = if ((szL N []).all fun x => x == size) = true then (true, []) else (false, []) := by
      show vis N size (false, []) [] = _
      unfold vis
      simp
    rw [ev]
    cases (szL N []).all fun x => x == size with
    | true => exact ⟨_, rfl, rfl⟩
    | false => exact ⟨_, rfl, rfl⟩
  · have e : lookL K t [] = goL K t [] := by unfold lookL; rw [if_neg (by simp; omega)]
    rw [e] at hcut ⊢
    have h3 := F7_loop N size K t [] ⟨by simp; omega, by omega⟩ ht (by simp) t.length 0 false [] (by omega) (by rw [List.drop_zero]; exact hcut) (fun j fd r h1 h2 h3 => by
      have := cuts_fe2 N size K (by omega) t ht recLim (j + 1) ([] ++ [gD t j]) fd r (by omega) (by unfold recLim; omega) (by simp; omega) (by simp; omega) h3
      rwa [List.length_append, List.length_singleton] at this)
    rw [List.drop_zero, List.length_nil, Nat.sub_zero] at h3
    have h3' : F7_L3 ((t, ([], ((K : Int), (((), ((), ((), ()))), (0 : Int))))), (false, ((N : Int), (size, ((), ([] : List Dg)))))) = _ := h3
    rw [if_neg (by simp; omega), T.run_test, if_pos (by simp), T.run_sub, h3', Option.bind_some, T.run_test, if_pos (by simp), T.run_ret]
    exact ⟨_, rfl, rfl⟩


def F19_sh : FSh := ⟨[(.one (.si .i64)), (.one (.si .i64))], []⟩

def F19_w_fo : List FO := [⟨[(.one (.rw 0 0)), (.one .sb)], [(.row 0 (.pair (.int .i64) (.int .i64)))]⟩, ⟨[(.one (.nl true true)), (.one .sb)], []⟩]
noncomputable def F19_t : (Int × Int) → T (((Unit × Bool) × List ((Int × Int))) ⊕ (Unit × Bool)) := fun (n, size) =>
 (.sub (F26 n) fun z0 =>
 (.test (! z0)
 (.test true
 (.ret (Sum.inl (((), false), ([] : List (Int × Int)))))
 .fail)
 (.test (decide (size < 3))
 (.test true
 (.ret (Sum.inl (((), false), ([] : List (Int × Int)))))
 .fail)
 (.test (decide ((w64 (size - 2)) ≠ 0))
 (.test ((Int.tmod (w64 (n - 2)) (w64 (size - 2))) != 0)
 (.test true
 (.ret (Sum.inl (((), false), ([] : List (Int × Int)))))
 .fail)
 (.sub (F23 n) fun z1 =>
 (.test (decide ((w64 (size - 2)) ≠ 0))
 (.test (decide ((0 + (List.length z1.2)) ≤ (List.length z1.2)))
 (.sub (F7 (((win z1.2 0 (List.length z1.2)), (([] : List (Int × Int)), ((0 : Int), ((w64 ((w64 (Int.tdiv (w64 (n - 2)) (w64 (size - 2)))) - 1)), ((), ((), ((), ()))))))), (false, (n, (size, ()))))) fun z2 =>
 (.test (Sum.isLeft z2)
 (.sub (Sum.getLeft? z2) fun z3 =>
 (.test (decide ((0 = 0) ∧ ((List.length z3.2.2.2.2.2) = (List.length z3.2.2.2.2.2))))
 (.ret (Sum.inl (((), z3.2.1), z3.2.2.2.2.2)))
 .fail))
 (.sub (Sum.getRight? z2) fun z4 =>
 (.ret (Sum.inr ((), z4.2.1))))))
 .fail)
 .fail)))
 .fail))))
noncomputable def F19_w (v : (Int × Int)) : Option (((Unit × Bool) × List ((Int × Int))) ⊕ (Unit × Bool)) := (F19_t v).run
noncomputable def F19_E : TEnv := (((E0.add1 n_F26 F26_sh F26_fo F26).add1 n_F23 F23_sh F23_fo F23).add1 n_F65 F7_sh F7_fo F7)
theorem F19_Eok : (F19_E).OK := (((E0ok.add1 F26_ok).add1 F23_ok).add1 F7_ok)
noncomputable def F19_told : Nat → Option SealT := fun id => none
theorem F19_w_ok : FOK Try.prog n_F19 F19_sh F19_w_fo F19_w :=
  fn_ok (E := F19_E) (F19_Eok) (told := F19_told) (fl := []) (c := bodyOf fn_F19) (s := F19_sh) (l := F19_w_fo) (tree := F19_t) fnat_F19 (by kernel_rfl) (by kernel_rfl) (by kernel_rfl) (loopsOK_of (ls := []) (by kernel_rfl) trivial) (fun v => by kernel_rfl)
def F19_fo : List FO := [⟨[(.one (.rw 0 0)), (.one .sb)], [(.row 0 (.pair (.int .i64) (.int .i64)))]⟩]
def F19_m : (((Unit × Bool) × List ((Int × Int))) ⊕ (Unit × Bool)) → ((Unit × Bool) × List ((Int × Int))) := fun o => match o with | (.inl x) => x | (.inr a) => (a, [])
noncomputable def F19 (v : (Int × Int)) : Option ((Unit × Bool) × List ((Int × Int))) := (F19_w v).map F19_m
theorem F19_ok : FOK Try.prog n_F19 F19_sh F19_fo F19 :=
  FOK.own (l' := F19_fo) F19_w_ok F19_m [(.pair (.int .i64) (.int .i64))] (by decide) (fun o => match o with | (.inl x) => .inl (by kernel_rfl) | (.inr a) => .inr (by kernel_rfl))

theorem vis_find (N : Nat) (size : Int) : ∀ (L : List (List Dg)), L.foldl (vis N size) (false, []) = match L.find? (fun ds => (szL N ds).all fun x => x == size) with | some ds => (true, ds) | none => (false, [])
  | [] => rfl
  | a :: t => by
    have stay : ∀ (L : List (List Dg)) (r : List Dg), L.foldl (vis N size) (true, r) = (true, r) := by
      intro L
      induction L with
      | nil => intro r; rfl
      | cons a t ih => intro r; rw [List.foldl_cons]; exact ih r
    rw [List.foldl_cons, List.find?_cons]
    unfold vis
    cases h : (szL N a).all fun x => x == size with
    | true => simp only [Bool.not_false, Bool.and_self, if_true]; exact stay t a
    | false => simp only [Bool.and_false, Bool.false_eq_true, if_false]; exact vis_find N size t
def feK (n size : Int) : Nat := ((n - 2) / (size - 2) - 1).toNat
def feC (n size : Int) : Bool := inB 3 8 n && (decide (3 ≤ size) && decide ((n - 2) % (size - 2) = 0))
def feR (n size : Int) : Option (List Dg) := if feC n size = true then (cutsK n.toNat (feK n size)).find? (fun ds => (szL n.toNat ds).all fun x => x == size) else none
theorem fe_facts {n size : Int} (h : feC n size = true) : ∃ N : Nat, n = (N : Int) ∧ 3 ≤ N ∧ N ≤ 8 ∧ 3 ≤ size ∧ size ≤ n ∧ feK n size + 3 ≤ N ∧ feK n size ≤ 5 ∧ w64 (size - 2) = size - 2 ∧ w64 (n - 2) = n - 2 ∧ Int.tmod (n - 2) (size - 2) = 0 ∧ w64 (w64 (Int.tdiv (n - 2) (size - 2)) - 1) = (feK n size : Int) := by
  unfold feC at h
  rw [Bool.and_eq_true, Bool.and_eq_true, inB_iff, decide_eq_true_eq, decide_eq_true_eq] at h
  obtain ⟨h1, h2, h3⟩ := h
  have hle : size ≤ n := by
    rcases Int.lt_or_le n size with c | c
    · rw [Int.emod_eq_of_lt (by omega) (by omega)] at h3; omega
    · exact c
  have hd : Int.tdiv (n - 2) (size - 2) = (n - 2) / (size - 2) := Int.tdiv_eq_ediv_of_nonneg (by omega)
  have hm : Int.tmod (n - 2) (size - 2) = (n - 2) % (size - 2) := Int.tmod_eq_emod_of_nonneg (by omega)
  have hdm := Int.mul_ediv_add_emod (n - 2) (size - 2)
  have hq1 : 1 ≤ (n - 2) / (size - 2) := by
    rcases Int.lt_or_le ((n - 2) / (size - 2)) 1 with c | c
    · have := Int.ediv_nonneg (show 0 ≤ n - 2 by omega) (show 0 ≤ size - 2 by omega)
      have e : (n - 2) / (size - 2) = 0 := by omega
      rw [e, h3] at hdm
      omega
    · exact c
  have hq2 : (n - 2) / (size - 2) ≤ n - 2 := Int.ediv_le_self _ (by omega)
  refine ⟨n.toNat, by omega, by omega, by omega, h2, hle, by unfold feK; omega, by unfold feK; omega, w64_id (by omega) (by omega), w64_id (by omega) (by omega), by rw [hm, h3], ?_⟩
  rw [hd, w64_id (z := (n - 2) / (size - 2)) (by omega) (by omega), w64_id (by omega) (by omega)]
  unfold feK
  omega
theorem cutsK_cut {N K : Nat} (h3 : 3 ≤ N) (h8 : N ≤ 8) (hK : K + 3 ≤ N) : ∀ ds ∈ lookL K (dgL N) [], isCut N ds = true := fun ds hds => by
  have := List.all_eq_true.1 (cutsK_ok N h8 K (by omega) h3 hK).1 ds hds
  rw [Bool.and_eq_true] at this
  exact this.1
theorem F19_eq (n size : Int) (hs : size ≤ 9223372036854775807) : F19 (n, size) = some (match feR n size with | some ds => (((), true), ds) | none => (((), false), [])) := by
  rw [F19, F19_w, F19_t, T.run_sub, F26, F26_t, T.run_sub, F45_eq, Option.bind_some, T.run_ret, Option.bind_some, T.run_test]
  cases hn : inB 3 8 n with
  | false =>
    have : feR n size = none := by unfold feR feC; rw [hn]; rfl
    rw [this, if_pos (by rfl), T.run_test, if_pos (by rfl), T.run_ret]
    rfl
  | true =>
    have hn' := inB_iff.1 hn
    rw [if_neg (by simp), T.run_test]
    by_cases h3 : size < 3
    · have : feR n size = none := by unfold feR feC; rw [decide_eq_false (by omega : ¬ 3 ≤ size), Bool.false_and, Bool.and_false]; rfl
      rw [this, if_pos (decide_eq_true h3), T.run_test, if_pos (by rfl), T.run_ret]
      rfl
    · have w1 : w64 (size - 2) = size - 2 := w64_id (by omega) (by omega)
      have w2 : w64 (n - 2) = n - 2 := w64_id (by omega) (by omega)
      rw [if_neg (by rw [decide_eq_true_eq]; exact h3), w1, w2, T.run_test, if_pos (decide_eq_true (by omega)), T.run_test]
      by_cases hm : (n - 2) % (size - 2) = 0
      · have hC : feC n size = true := by unfold feC; rw [hn, decide_eq_true (by omega : 3 ≤ size), decide_eq_true hm]; rfl
        obtain ⟨N, rfl, f3, f8, f4, f5, f6, f7, f9, f10, f11, f12⟩ := fe_facts hC
        obtain ⟨z, hz, hp⟩ := cuts_fe1 N size (feK N size) (by omega) (dgL N) (dgL_len N (by omega)) (cutsK_cut f3 f8 f6)
        rw [f11, if_neg (by simp), T.run_sub, F23_eq N (by omega), Option.bind_some, T.run_test, if_pos (decide_eq_true (by omega)), T.run_test, if_pos (by simp), T.run_sub]
        dsimp only
        rw [win_all, f12, hz, Option.bind_some, T.run_test]
        have hR : feR (N : Int) size = (lookL (feK N size) (dgL N) []).find? (fun ds => (szL N ds).all fun x => x == size) := by
          unfold feR; rw [if_pos hC, Int.toNat_natCast]; rfl
        rw [hR]
        rw [vis_find] at hp
        cases hfi : (lookL (feK N size) (dgL N) []).find? (fun ds => (szL N ds).all fun x => x == size) with
        | none =>
          rw [hfi] at hp
          rcases z with ⟨u, fd, a1, a2, u2, r⟩ | ⟨u, fd, a1⟩
          · obtain ⟨rfl, rfl⟩ := Prod.mk.inj hp
            rfl
          · obtain ⟨rfl, _⟩ := Prod.mk.inj hp
            rfl
        | some ds =>
          rw [hfi] at hp
          rcases z with ⟨u, fd, a1, a2, u2, r⟩ | ⟨u, fd, a1⟩
          · obtain ⟨rfl, rfl⟩ := Prod.mk.inj hp
            rw [if_pos (by rfl), T.run_sub]
            simp only [Sum.getLeft?, Option.bind_some]
            rw [T.run_test, if_pos (by simp), T.run_ret]
            rfl
          · obtain ⟨rfl, rfl⟩ := Prod.mk.inj hp
            rfl
      · have : feR n size = none := by unfold feR feC; rw [decide_eq_false hm, Bool.and_false, Bool.and_false]; rfl
        have hm' : Int.tmod (n - 2) (size - 2) ≠ 0 := by rw [Int.tmod_eq_emod_of_nonneg (by omega)]; exact hm
        rw [this, if_pos (by simp [hm']), T.run_test, if_pos (by rfl), T.run_ret]
        rfl


def F20_sh : FSh := ⟨[(.one (.si .i64)), (.one (.si .i64))], []⟩

def F20_L4_sh : LSh := ⟨(fun ex => match ex with | .norm => [(0, none), (1, none), (35, none), (36, none), (37, none)] | .exit i => if i = 0 then [] else [] | .ret => [(4, none), (5, none)]), [(0, (.one (.si .i64))), (1, (.one (.si .i64))), (35, (.one (.rw 0 0))), (36, (.one (.si .i64))), (37, (.one (.si .i64)))], [(.row 0 (.list true (.pair (.int .i64) (.int .i64))))], [⟨.ret, [(4, (.one (.sl (.pair (.int .i64) (.int .i64)) false true))), (5, (.one .sb))], []⟩, ⟨(.exit 0), [], []⟩], [], []⟩
noncomputable def F20_L4_step : ((Int × Int × Unit × Int × Int) × List (List ((Int × Int)))) → T (((Int × Int × Unit × Int × Int) × List (List ((Int × Int)))) ⊕ ((List ((Int × Int)) × Bool) ⊕ Unit)) := fun ((n, size, (), t36, t37), t35) =>
 (.test (decide (t37 < t36))
 (.test (decide ((0 ≤ t37) ∧ (t37 < ((List.length t35) : Int))))
 (.sub (t35[(0 + (Int.toNat t37))]?) fun z0 =>
 (.sub (F38 (n, (z0, size))) fun z1 =>
 (.test z1
 (.ret (Sum.inr (Sum.inl (z0, true))))
 (.test (decide ((0 = 0) ∧ ((List.length t35) = (List.length t35))))
 (.ret (Sum.inl ((n, (size, ((), (t36, (w64 (t37 + 1)))))), t35)))
 .fail))))
 .fail)
 (.ret (Sum.inr (Sum.inr ()))))
noncomputable def F20_L4 (v : ((Int × Int × Unit × Int × Int) × List (List ((Int × Int))))) : Option ((List ((Int × Int)) × Bool) ⊕ Unit) := loopO (fun v => (F20_L4_step v).run) v

def F20_fo : List FO := [⟨[(.one (.rw 0 0)), (.one .sb)], [(.row 0 (.pair (.int .i64) (.int .i64)))]⟩, ⟨[(.one (.sl (.pair (.int .i64) (.int .i64)) false true)), (.one .sb)], []⟩]
noncomputable def F20_t : (Int × Int) → T (((Unit × Bool) × List ((Int × Int))) ⊕ (List ((Int × Int)) × Bool)) := fun (n, size) =>
 (.sub (F54 (n, ((3 : Int), (8 : Int)))) fun z0 =>
 (.test (! z0)
 (.test true
 (.ret (Sum.inl (((), false), ([] : List (Int × Int)))))
 .fail)
 (.test (decide (size < 3))
 (.test true
 (.ret (Sum.inl (((), false), ([] : List (Int × Int)))))
 .fail)
 (.test (decide (size > n))
 (.test true
 (.ret (Sum.inl (((), false), ([] : List (Int × Int)))))
 .fail)
 (.test (decide ((w64 (size - 2)) ≠ 0))
 (.test ((Int.tmod (w64 (n - 2)) (w64 (size - 2))) != 0)
 (.test true
 (.ret (Sum.inl (((), false), ([] : List (Int × Int)))))
 .fail)
 (.test (decide ((w64 (size - 2)) ≠ 0))
 (.sub (F47 (n, (w64 ((w64 (Int.tdiv (w64 (n - 2)) (w64 (size - 2)))) - 1)))) fun z1 =>
 (.test (decide ((0 = 0) ∧ ((List.length z1.2) = (List.length z1.2))))
 (.sub (F20_L4 ((n, (size, ((), (((List.length z1.2) : Int), (0 : Int))))), z1.2)) fun z2 =>
 (.test (Sum.isLeft z2)
 (.sub (Sum.getLeft? z2) fun z3 =>
 (.ret (Sum.inr (z3.1, z3.2))))
 (.sub (Sum.getRight? z2) fun z4 =>
 (.test true
 (.ret (Sum.inl (((), false), ([] : List (Int × Int)))))
 .fail))))
 .fail))
 .fail))
 .fail)))))
noncomputable def F20 (v : (Int × Int)) : Option (((Unit × Bool) × List ((Int × Int))) ⊕ (List ((Int × Int)) × Bool)) := (F20_t v).run
noncomputable def F20_E : TEnv := (((E0.add1 n_F54 F54_sh F54_fo F54).add1 n_F47 F47_sh F47_fo F47).add1 n_F38 F38_sh F38_fo F38)
theorem F20_Eok : (F20_E).OK := (((E0ok.add1 F54_ok).add1 F47_ok).add1 F38_ok)
noncomputable def F20_told : Nat → Option SealT := fun id => if id = 4 then some (LSh.told F20_L4_sh 0 (F20_L4_step)) else none
theorem F20_L4_ok : ToldOK Try.prog 0 (loopAt (bodyOf fn_F20) [0]) (LSh.told F20_L4_sh 0 (F20_L4_step)) :=
  loop_ok (E := F20_E) (F20_Eok) (told := F20_told) (l := F20_L4_sh) (step := F20_L4_step) (loopsOK_of (ls := []) (by kernel_rfl) trivial) (by kernel_rfl) (fun v => by kernel_rfl)
theorem F20_ok : FOK Try.prog n_F20 F20_sh F20_fo F20 :=
  fn_ok (E := F20_E) (F20_Eok) (told := F20_told) (fl := []) (c := bodyOf fn_F20) (s := F20_sh) (l := F20_fo) (tree := F20_t) fnat_F20 (by kernel_rfl) (by kernel_rfl) (by kernel_rfl) (loopsOK_of (ls := [loopAt (bodyOf fn_F20) [0]]) (by kernel_rfl) ⟨.inr ⟨_, by kernel_rfl, F20_L4_ok⟩, trivial⟩) (fun v => by kernel_rfl)

theorem cuEqual_ofCut {N : Nat} {ds : List Dg} (size : Int) (h : isCut N ds = true) : F38 ((N : Int), (ds, size)) = some ((szL N ds).all fun s => s == size) := by
  obtain ⟨k, e, h3, h12, hl, hc⟩ := isCut_cut h
  obtain rfl : k = N := by omega
  exact F38_eq size h3 h12 hl hc
theorem F20_loop {N : Nat} (size : Int) (L : List (List Dg)) (hl : L.length < 4611686018427387904) (hL : ∀ ds ∈ L, isCut N ds = true) :
    F20_L4 (((N : Int), (size, ((), ((L.length : Int), (0 : Int))))), L) = some (match L.find? (fun ds => (szL N ds).all fun x => x == size) with | some ds => .inl (ds, true) | none => .inr ()) := by
  have key : ∀ (m k : Nat), k + m = L.length → F20_L4 (((N : Int), (size, ((), ((L.length : Int), (k : Int))))), L) = some (match (L.drop k).find? (fun ds => (szL N ds).all fun x => x == size) with | some ds => .inl (ds, true) | none => .inr ()) := by
    intro m
    induction m with
    | zero =>
      intro k hk
      rw [List.drop_of_length_le (by omega)]
      refine loopO_done ?_
      rw [F20_L4_step, T.run_test, if_neg (by rw [decide_eq_true_eq]; omega), T.run_ret]
      rfl
    | succ m ih =>
      intro k hk
      have hlt : k < L.length := by omega
      have w1 : w64 ((k : Int) + 1) = ((k + 1 : Nat) : Int) := by rw [w64_id (by omega) (by omega)]; omega
      rw [List.drop_eq_getElem_cons hlt, List.find?_cons]
      have st : (F20_L4_step (((N : Int), (size, ((), ((L.length : Int), (k : Int))))), L)).run = some (if ((szL N L[k]).all fun x => x == size) = true then .inr (.inl (L[k], true)) else .inl (((N : Int), (size, ((), ((L.length : Int), ((k + 1 : Nat) : Int))))), L)) := by
        rw [F20_L4_step, T.run_test, if_pos (decide_eq_true (by omega)), T.run_test, if_pos (decide_eq_true (by omega)), T.run_sub, Int.toNat_natCast, Nat.zero_add, List.getElem?_eq_getElem hlt, Option.bind_some, T.run_sub, cuEqual_ofCut size (hL _ (List.getElem_mem hlt)), Option.bind_some, T.run_test]
        cases (szL N L[k]).all fun x => x == size with
        | true => rw [if_pos rfl, T.run_ret]; rfl
        | false => rw [if_neg (by simp), T.run_test, if_pos (by simp), T.run_ret, w1]; rfl
      cases h : (szL N L[k]).all fun x => x == size with
      | true => rw [h] at st; exact loopO_done st
      | false => rw [h] at st; exact (loopO_next st).trans (ih (k + 1) (by omega))
  have := key L.length 0 (by omega)
  rwa [List.drop_zero] at this
theorem F20_eq (n size : Int) (hs : size ≤ 9223372036854775807) : F20 (n, size) = some (match feR n size with | some ds => .inr (ds, true) | none => .inl (((), false), [])) := by
  rw [F20, F20_t, T.run_sub, F54_eq, Option.bind_some, T.run_test]
  cases hn : inB 3 8 n with
  | false =>
    have : feR n size = none := by unfold feR feC; rw [hn]; rfl
    rw [this, if_pos (by rfl), T.run_test, if_pos (by rfl), T.run_ret]
  | true =>
    have hn' := inB_iff.1 hn
    rw [if_neg (by simp), T.run_test]
    by_cases h3 : size < 3
    · have : feR n size = none := by unfold feR feC; rw [decide_eq_false (by omega : ¬ 3 ≤ size), Bool.false_and, Bool.and_false]; rfl
      rw [this, if_pos (decide_eq_true h3), T.run_test, if_pos (by rfl), T.run_ret]
    · rw [if_neg (by rw [decide_eq_true_eq]; exact h3), T.run_test]
      by_cases hgt : size > n
      · have : feR n size = none := by
          unfold feR
          rw [if_neg]
          intro hC
          obtain ⟨N, rfl, f3, f8, f4, f5, _⟩ := fe_facts hC
          omega
        rw [this, if_pos (decide_eq_true hgt), T.run_test, if_pos (by rfl), T.run_ret]
      · have w1 : w64 (size - 2) = size - 2 := w64_id (by omega) (by omega)
        have w2 : w64 (n - 2) = n - 2 := w64_id (by omega) (by omega)
        rw [if_neg (by rw [decide_eq_true_eq]; exact hgt), w1, w2, T.run_test, if_pos (decide_eq_true (by omega)), T.run_test]
        by_cases hm : (n - 2) % (size - 2) = 0
        · have hC : feC n size = true := by unfold feC; rw [hn, decide_eq_true (by omega : 3 ≤ size), decide_eq_true hm]; rfl
          obtain ⟨N, rfl, f3, f8, f4, f5, f6, f7, f9, f10, f11, f12⟩ := fe_facts hC
          have hlen : (lookL (feK N size) (dgL N) []).length < 4611686018427387904 := by
            have h1 : (lookL (feK N size) (dgL N) []).length ≤ 2 ^ (dgL N).length := by
              unfold lookL
              split
              · exact Nat.one_le_two_pow
              · exact goL_len _ _ _
            have h2 : 2 ^ (dgL N).length ≤ 2 ^ 27 := Nat.pow_le_pow_right (by omega) (dgL_len N (by omega))
            have h27 : (2 : Nat) ^ 27 = 134217728 := by decide
            omega
          rw [f11, if_neg (by simp), T.run_test, if_pos (decide_eq_true (by omega)), T.run_sub, f12, F47_eq N (feK N size) (by omega) (by omega), Option.bind_some, T.run_test, if_pos (by simp), T.run_sub, F20_loop size _ hlen (cutsK_cut f3 f8 f6), Option.bind_some, T.run_test]
          have hR : feR (N : Int) size = (lookL (feK N size) (dgL N) []).find? (fun ds => (szL N ds).all fun x => x == size) := by
            unfold feR; rw [if_pos hC, Int.toNat_natCast]; rfl
          rw [hR]
          cases (lookL (feK N size) (dgL N) []).find? (fun ds => (szL N ds).all fun x => x == size) <;> rfl
        · have : feR n size = none := by unfold feR feC; rw [decide_eq_false hm, Bool.and_false, Bool.and_false]; rfl
          have hm' : Int.tmod (n - 2) (size - 2) ≠ 0 := by rw [Int.tmod_eq_emod_of_nonneg (by omega)]; exact hm
          rw [this, if_pos (by simp [hm']), T.run_test, if_pos (by rfl), T.run_ret]


def F31_sh : FSh := ⟨[(.ag [(.si .i64), (.si .i64)]), (.ag [(.si .i64), (.si .i64)])], []⟩

def F31_fo : List FO := [⟨[(.one .sb)], []⟩]
noncomputable def F31_t : ((Int × Int) × (Int × Int)) → T Bool := fun ((a_0, a_1), (b_0, b_1)) =>
 (.test (a_0 != b_0)
 (.ret false)
 (.test (a_1 != b_1)
 (.ret false)
 (.ret true)))
noncomputable def F31 (v : ((Int × Int) × (Int × Int))) : Option Bool := (F31_t v).run
noncomputable def F31_E : TEnv := E0
theorem F31_Eok : (F31_E).OK := E0ok
noncomputable def F31_told : Nat → Option SealT := fun id => none
theorem F31_ok : FOK Try.prog n_F31 F31_sh F31_fo F31 :=
  fn_ok (E := F31_E) (F31_Eok) (told := F31_told) (fl := []) (c := bodyOf fn_F31) (s := F31_sh) (l := F31_fo) (tree := F31_t) fnat_F31 (by kernel_rfl) (by kernel_rfl) (by kernel_rfl) (loopsOK_of (ls := []) (by kernel_rfl) trivial) (fun v => by kernel_rfl)

theorem F31_eq (a b : Int × Int) : F31 (a, b) = some (decide (a = b)) := by
  obtain ⟨a0, a1⟩ := a
  obtain ⟨b0, b1⟩ := b
  simp only [F31, F31_t, T.run]
  by_cases h0 : a0 = b0
  · by_cases h1 : a1 = b1
    · simp [h0, h1]
    · simp [h0, h1]
  · simp [h0]


def F27_sh : FSh := ⟨[(.one (.sl (.pair (.int .i64) (.int .i64)) false false)), (.one (.sl (.pair (.int .i64) (.int .i64)) false false))], []⟩

def F27_L4_sh : LSh := ⟨(fun ex => match ex with | .norm => [(0, none), (1, none), (5, none)] | .exit i => if i = 0 then [] else [] | .ret => [(4, none)]), [(0, (.one (.sl (.pair (.int .i64) (.int .i64)) false false))), (1, (.one (.sl (.pair (.int .i64) (.int .i64)) false false))), (5, (.one (.si .i64)))], [], [⟨.ret, [(4, (.one .sb))], []⟩, ⟨(.exit 0), [], []⟩], [], []⟩
noncomputable def F27_L4_step : (List ((Int × Int)) × List ((Int × Int)) × Int) → T ((List ((Int × Int)) × List ((Int × Int)) × Int) ⊕ (Bool ⊕ Unit)) := fun (a, b, i) =>
 (.test (decide (i < ((List.length a) : Int)))
 (.test (decide ((0 ≤ i) ∧ (i < ((List.length a) : Int))))
 (.sub (a[(Int.toNat i)]?) fun z0 =>
 (.test (decide ((0 ≤ i) ∧ (i < ((List.length b) : Int))))
 (.sub (b[(Int.toNat i)]?) fun z1 =>
 (.sub (F31 ((z0.1, z0.2), (z1.1, z1.2))) fun z2 =>
 (.test (! z2)
 (.ret (Sum.inr (Sum.inl false)))
 (.ret (Sum.inl (a, (b, (w64 (i + 1)))))))))
 .fail))
 .fail)
 (.ret (Sum.inr (Sum.inr ()))))
noncomputable def F27_L4 (v : (List ((Int × Int)) × List ((Int × Int)) × Int)) : Option (Bool ⊕ Unit) := loopO (fun v => (F27_L4_step v).run) v

def F27_fo : List FO := [⟨[(.one .sb)], []⟩]
noncomputable def F27_t : (List ((Int × Int)) × List ((Int × Int))) → T Bool := fun (a, b) =>
 (.test (((List.length a) : Int) != ((List.length b) : Int))
 (.ret false)
 (.sub (F27_L4 (a, (b, (0 : Int)))) fun z0 =>
 (.test (Sum.isLeft z0)
 (.sub (Sum.getLeft? z0) fun z1 =>
 (.ret z1))
 (.sub (Sum.getRight? z0) fun z2 =>
 (.ret true)))))
noncomputable def F27 (v : (List ((Int × Int)) × List ((Int × Int)))) : Option Bool := (F27_t v).run
noncomputable def F27_E : TEnv := (E0.add1 n_F31 F31_sh F31_fo F31)
theorem F27_Eok : (F27_E).OK := (E0ok.add1 F31_ok)
noncomputable def F27_told : Nat → Option SealT := fun id => if id = 4 then some (LSh.told F27_L4_sh 0 (F27_L4_step)) else none
theorem F27_L4_ok : ToldOK Try.prog 0 (loopAt (bodyOf fn_F27) [0]) (LSh.told F27_L4_sh 0 (F27_L4_step)) :=
  loop_ok (E := F27_E) (F27_Eok) (told := F27_told) (l := F27_L4_sh) (step := F27_L4_step) (loopsOK_of (ls := []) (by kernel_rfl) trivial) (by kernel_rfl) (fun v => by kernel_rfl)
theorem F27_ok : FOK Try.prog n_F27 F27_sh F27_fo F27 :=
  fn_ok (E := F27_E) (F27_Eok) (told := F27_told) (fl := []) (c := bodyOf fn_F27) (s := F27_sh) (l := F27_fo) (tree := F27_t) fnat_F27 (by kernel_rfl) (by kernel_rfl) (by kernel_rfl) (loopsOK_of (ls := [loopAt (bodyOf fn_F27) [0]]) (by kernel_rfl) ⟨.inr ⟨_, by kernel_rfl, F27_L4_ok⟩, trivial⟩) (fun v => by kernel_rfl)

theorem F27_eq (a b : List (Int × Int)) (hl : a.length < 4611686018427387904) : F27 (a, b) = some (decide (a = b)) := by
  by_cases hab : a.length = b.length
  · have h := loop_any (step := fun v => (F27_L4_step v).run) (xs := a.zip b) (fun p => !(decide (p.1 = p.2))) (fun k => (a, b, (k : Int))) (.inl false) (.inr ())
      (fun k x hx => by
        have hk := getElem?_lt hx
        rw [List.length_zip, hab, Nat.min_self] at hk
        rw [List.getElem?_zip_eq_some] at hx
        simp only [F27_L4_step, T.run, Option.bind_some, Int.toNat_natCast, hx.1, hx.2, Prod.eta, F31_eq]
        rw [w64_id (by omega) (by omega)]
        have hka : k < a.length := by omega
        cases decide (x.1 = x.2) <;> simp [hk, hka])
      (by simp [F27_L4_step, T.run, hab])
    simp only [F27, F27_t, T.run, F27_L4]
    simp only [Int.natCast_zero] at h
    rw [h, hab]
    rw [zip_any_neD a b hab]
    cases decide (a = b) <;> simp
  · simp only [F27, F27_t, T.run]
    have : a ≠ b := fun e => hab (by rw [e])
    simp [this]
    omega


def F21_sh : FSh := ⟨[(.one (.rw 0 0)), (.one (.si .i64))], [(.row 0 (.pair (.int .i64) (.int .i64)))]⟩

def F21_L2_sh : LSh := ⟨(fun ex => match ex with | .norm => [(0, none), (1, none), (5, none)] | .exit i => if i = 0 then [(1, none)] else [] | .ret => [(4, none)]), [(0, (.one (.rw 0 0))), (1, (.one (.si .i64))), (5, (.one (.si .i64)))], [(.row 0 (.pair (.int .i64) (.int .i64)))], [⟨(.exit 0), [(1, (.one (.si .i64)))], [(.row 0 (.pair (.int .i64) (.int .i64)))]⟩], [], []⟩
noncomputable def F21_L2_step : ((Unit × Int × Int) × List ((Int × Int))) → T (((Unit × Int × Int) × List ((Int × Int))) ⊕ (Int × List ((Int × Int)))) := fun (((), k, i), a) =>
 (.test (decide (i < ((List.length a) : Int)))
 (.test (decide ((0 ≤ i) ∧ (i < ((List.length a) : Int))))
 (.sub (a[(0 + (Int.toNat i))]?) fun z0 =>
 (.test (decide ((0 ≤ i) ∧ (i < ((List.length a) : Int))))
 (.sub ((List.set a (0 + (Int.toNat i)) (k, z0.2))[(0 + (Int.toNat i))]?) fun z1 =>
 (.test (decide ((0 = 0) ∧ ((List.length a) = (List.length (List.set (List.set a (0 + (Int.toNat i)) (k, z0.2)) (0 + (Int.toNat i)) (z1.1, (w64 (k + 1))))))))
 (.ret (Sum.inl (((), ((w64 ((w64 (k + 1)) + 1)), (w64 (i + 1)))), (List.set (List.set a (0 + (Int.toNat i)) (k, z0.2)) (0 + (Int.toNat i)) (z1.1, (w64 (k + 1)))))))
 .fail))
 .fail))
 .fail)
 (.ret (Sum.inr (k, a))))
noncomputable def F21_L2 (v : ((Unit × Int × Int) × List ((Int × Int)))) : Option (Int × List ((Int × Int))) := loopO (fun v => (F21_L2_step v).run) v

def F21_fo : List FO := [⟨[(.one (.si .i64))], [(.row 0 (.pair (.int .i64) (.int .i64)))]⟩]
noncomputable def F21_t : ((Unit × Int) × List ((Int × Int))) → T (Int × List ((Int × Int))) := fun (((), k), a) =>
 (.test (decide ((0 = 0) ∧ ((List.length a) = (List.length a))))
 (.sub (F21_L2 (((), (k, (0 : Int))), a)) fun z0 =>
 (.ret (z0.1, z0.2)))
 .fail)
noncomputable def F21 (v : ((Unit × Int) × List ((Int × Int)))) : Option (Int × List ((Int × Int))) := (F21_t v).run
noncomputable def F21_E : TEnv := E0
theorem F21_Eok : (F21_E).OK := E0ok
noncomputable def F21_told : Nat → Option SealT := fun id => if id = 2 then some (LSh.told F21_L2_sh 1 (F21_L2_step)) else none
theorem F21_L2_ok : ToldOK Try.prog 1 (loopAt (bodyOf fn_F21) [0]) (LSh.told F21_L2_sh 1 (F21_L2_step)) :=
  loop_ok (E := F21_E) (F21_Eok) (told := F21_told) (l := F21_L2_sh) (step := F21_L2_step) (loopsOK_of (ls := []) (by kernel_rfl) trivial) (by kernel_rfl) (fun v => by kernel_rfl)
theorem F21_ok : FOK Try.prog n_F21 F21_sh F21_fo F21 :=
  fn_ok (E := F21_E) (F21_Eok) (told := F21_told) (fl := []) (c := bodyOf fn_F21) (s := F21_sh) (l := F21_fo) (tree := F21_t) fnat_F21 (by kernel_rfl) (by kernel_rfl) (by kernel_rfl) (loopsOK_of (ls := [loopAt (bodyOf fn_F21) [0]]) (by kernel_rfl) ⟨.inr ⟨_, by kernel_rfl, F21_L2_ok⟩, trivial⟩) (fun v => by kernel_rfl)

theorem F21_L2_eq (k : Int) (l : List (Int × Int)) (hk : 0 ≤ k ∧ k < 1000000000000) (hl : l.length < 1000000000000000) : ∀ n i, i + n = l.length →
    F21_L2 (((), (k + 2 * (i : Int), (i : Int))), iotD k i ++ l.drop i) = some (k + 2 * (l.length : Int), iotD k l.length) := by
  intro n
  induction n with
  | zero =>
    intro i hi
    obtain rfl : i = l.length := by omega
    rw [List.drop_length, List.append_nil]
    simp only [F21_L2]
    exact loopO_done (by simp [F21_L2_step, T.run, iotD_len])
  | succ n ih =>
    intro i hi
    have hlt : i < l.length := by omega
    have hd : l.drop i = l[i] :: l.drop (i + 1) := List.drop_eq_getElem_cons hlt
    have hlen : (iotD k i ++ l.drop i).length = l.length := by rw [List.length_append, iotD_len, List.length_drop]; omega
    have hget : (iotD k i ++ l.drop i)[i]? = some l[i] := by
      rw [List.getElem?_append_right (by rw [iotD_len]; omega), iotD_len, Nat.sub_self, hd]; rfl
    have hset : ∀ x : Int × Int, List.set (iotD k i ++ l.drop i) i x = iotD k i ++ x :: l.drop (i + 1) := fun x => by
      rw [List.set_append_right _ _ (by rw [iotD_len]; omega), iotD_len, Nat.sub_self, hd]; rfl
    have hset2 : ∀ x y : Int × Int, List.set (iotD k i ++ x :: l.drop (i + 1)) i y = iotD k i ++ y :: l.drop (i + 1) := fun x y => by
      rw [List.set_append_right _ _ (by rw [iotD_len]; omega), iotD_len, Nat.sub_self]; rfl
    have hget2 : ∀ x : Int × Int, (iotD k i ++ x :: l.drop (i + 1))[i]? = some x := fun x => by
      rw [List.getElem?_append_right (by rw [iotD_len]; omega), iotD_len, Nat.sub_self]; rfl
    have hlen2 : ∀ x : Int × Int, (iotD k i ++ x :: l.drop (i + 1)).length = l.length := fun x => by rw [List.length_append, iotD_len, List.length_cons, List.length_drop]; omega
    simp only [F21_L2] at ih ⊢
    have h1 : (i : Int) < (l.length : Int) := by omega
    have h2 : (0 : Int) ≤ i ∧ (i : Int) < (l.length : Int) := by omega
    have e1 : k + 2 * (i : Int) + 1 + 1 = k + 2 * ((i + 1 : Nat) : Int) := by omega
    have e2 : ((i : Int) + 1) = ((i + 1 : Nat) : Int) := by omega
    have hst : (F21_L2_step (((), (k + 2 * (i : Int), (i : Int))), iotD k i ++ l.drop i)).run = some (.inl (((), (k + 2 * ((i + 1 : Nat) : Int), ((i + 1 : Nat) : Int))), iotD k (i + 1) ++ l.drop (i + 1))) := by
      simp only [F21_L2_step, T.run_test, T.run_sub, T.run_ret, T.run_fail, hlen, Int.toNat_natCast, Nat.zero_add, hget, Option.bind_some, hset, hget2, hset2, hlen2]
      rw [w64_id (z := k + 2 * (i : Int) + 1) (by omega) (by omega), w64_id (z := k + 2 * (i : Int) + 1 + 1) (by omega) (by omega), w64_id (z := (i : Int) + 1) (by omega) (by omega), e1, e2]
      simp only [h1, h2, decide_true, if_true, and_self]
      rw [iotD_succ, List.append_assoc]
      rfl
    rw [loopO_next hst]
    exact ih (i + 1) (by omega)
theorem F21_eq (k : Int) (l : List (Int × Int)) (hk : 0 ≤ k ∧ k < 1000000000000) (hl : l.length < 1000000000000000) : F21 (((), k), l) = some (k + 2 * (l.length : Int), iotD k l.length) := by
  have h := F21_L2_eq k l hk hl l.length 0 (by omega)
  simp only [F21, F21_t, T.run]
  have e : iotD k 0 ++ l.drop 0 = l := by simp [iotD]
  rw [e, show ((0 : Nat) : Int) = 0 from rfl, Int.mul_zero, Int.add_zero] at h
  simp [h]


def F22_sh : FSh := ⟨[(.one (.sl (.pair (.int .i64) (.int .i64)) false false)), (.one (.si .i64))], []⟩

def F22_L2_sh : LSh := ⟨(fun ex => match ex with | .norm => [(0, none), (1, none), (5, none)] | .exit i => if i = 0 then [(1, none)] else [] | .ret => [(4, none)]), [(0, (.one (.sl (.pair (.int .i64) (.int .i64)) false false))), (1, (.one (.si .i64))), (5, (.one (.si .i64)))], [], [⟨.ret, [(4, (.one (.si .i64)))], []⟩, ⟨(.exit 0), [(1, (.one (.si .i64)))], []⟩], [], []⟩
noncomputable def F22_L2_step : (List ((Int × Int)) × Int × Int) → T ((List ((Int × Int)) × Int × Int) ⊕ (Int ⊕ Int)) := fun (a, k, i) =>
 (.test (decide (i < ((List.length a) : Int)))
 (.test (decide ((0 ≤ i) ∧ (i < ((List.length a) : Int))))
 (.sub (a[(Int.toNat i)]?) fun z0 =>
 (.test (z0.1 != k)
 (.ret (Sum.inr (Sum.inl (-1))))
 (.test (decide ((0 ≤ i) ∧ (i < ((List.length a) : Int))))
 (.sub (a[(Int.toNat i)]?) fun z1 =>
 (.test (z1.2 != (w64 (k + 1)))
 (.ret (Sum.inr (Sum.inl (-1))))
 (.ret (Sum.inl (a, ((w64 ((w64 (k + 1)) + 1)), (w64 (i + 1))))))))
 .fail)))
 .fail)
 (.ret (Sum.inr (Sum.inr k))))
noncomputable def F22_L2 (v : (List ((Int × Int)) × Int × Int)) : Option (Int ⊕ Int) := loopO (fun v => (F22_L2_step v).run) v

def F22_fo : List FO := [⟨[(.one (.si .i64))], []⟩]
noncomputable def F22_t : (List ((Int × Int)) × Int) → T Int := fun (a, k) =>
 (.sub (F22_L2 (a, (k, (0 : Int)))) fun z0 =>
 (.test (Sum.isLeft z0)
 (.sub (Sum.getLeft? z0) fun z1 =>
 (.ret z1))
 (.sub (Sum.getRight? z0) fun z2 =>
 (.ret z2))))
noncomputable def F22 (v : (List ((Int × Int)) × Int)) : Option Int := (F22_t v).run
noncomputable def F22_E : TEnv := E0
theorem F22_Eok : (F22_E).OK := E0ok
noncomputable def F22_told : Nat → Option SealT := fun id => if id = 2 then some (LSh.told F22_L2_sh 0 (F22_L2_step)) else none
theorem F22_L2_ok : ToldOK Try.prog 0 (loopAt (bodyOf fn_F22) [0]) (LSh.told F22_L2_sh 0 (F22_L2_step)) :=
  loop_ok (E := F22_E) (F22_Eok) (told := F22_told) (l := F22_L2_sh) (step := F22_L2_step) (loopsOK_of (ls := []) (by kernel_rfl) trivial) (by kernel_rfl) (fun v => by kernel_rfl)
theorem F22_ok : FOK Try.prog n_F22 F22_sh F22_fo F22 :=
  fn_ok (E := F22_E) (F22_Eok) (told := F22_told) (fl := []) (c := bodyOf fn_F22) (s := F22_sh) (l := F22_fo) (tree := F22_t) fnat_F22 (by kernel_rfl) (by kernel_rfl) (by kernel_rfl) (loopsOK_of (ls := [loopAt (bodyOf fn_F22) [0]]) (by kernel_rfl) ⟨.inr ⟨_, by kernel_rfl, F22_L2_ok⟩, trivial⟩) (fun v => by kernel_rfl)

theorem F22_eq (k : Int) (n : Nat) (hk : 0 ≤ k ∧ k < 1000000000000) (hl : n < 1000000000000000) : F22 (iotD k n, k) = some (k + 2 * (n : Int)) := by
  have h := loop_count (step := fun v => (F22_L2_step v).run) (n := n) (fun i (_ : Unit) => (iotD k n, (k + 2 * (i : Int), (i : Int)))) (fun _ _ => Sum.inl ()) (fun _ => Sum.inr (k + 2 * (n : Int)))
    (by
      intro i s hi
      simp only [F22_L2_step, T.run, iotD_len, Int.toNat_natCast, iotD_get k hi, Option.bind_some]
      rw [w64_id (z := k + 2 * (i : Int) + 1) (by omega) (by omega), w64_id (z := k + 2 * (i : Int) + 1 + 1) (by omega) (by omega), w64_id (z := (i : Int) + 1) (by omega) (by omega)]
      have h1 : (i : Int) < (n : Int) := by omega
      have h2 : (0 : Int) ≤ i ∧ (i : Int) < (n : Int) := by omega
      have e1 : k + 2 * (i : Int) + 1 + 1 = k + 2 * ((i : Int) + 1) := by omega
      simp [h1, h2, e1])
    (by intro s; simp [F22_L2_step, T.run, iotD_len]) 0 () (Nat.zero_le _)
  rw [show ((0 : Nat) : Int) = 0 from rfl, Int.mul_zero, Int.add_zero] at h
  have hf : ∀ l : List Nat, forE (fun (_ : Unit) (_ : Nat) => (Sum.inl () : Unit ⊕ (Int ⊕ Int))) (fun _ => Sum.inr (k + 2 * (n : Int))) l () = Sum.inr (k + 2 * (n : Int)) := by
    intro l
    induction l with
    | nil => rfl
    | cons x t ih => rw [forE_cons]; exact ih
  rw [hf] at h
  simp only [F22, F22_t, T.run, F22_L2]
  rw [h]
  simp [Sum.isLeft]


def l_FnExactFirstEqualCut_sh : FSh := ⟨[(.one (.si .i64)), (.one (.si .i64))], []⟩

def l_FnExactFirstEqualCut_fo : List FO := [⟨[(.one .sb)], []⟩]
noncomputable def l_FnExactFirstEqualCut_t : (Int × Int) → T Bool := fun (aN, aSize) =>
 (.sub (F20 (aN, aSize)) fun z0 =>
 (.test (Sum.isLeft z0)
 (.sub (Sum.getLeft? z0) fun z1 =>
 (.sub (F19 (aN, aSize)) fun z2 =>
 (.test (decide ((0 + (List.length z2.2)) ≤ (List.length z2.2)))
 (.test (decide ((0 + (List.length z1.2)) ≤ (List.length z1.2)))
 (.sub (F27 ((win z2.2 0 (List.length z2.2)), (win z1.2 0 (List.length z1.2)))) fun z3 =>
 (.test (! z3)
 (.ret false)
 (.test (! (z2.1.2 == z1.1.2))
 (.ret false)
 (.test (decide ((0 = 0) ∧ ((List.length z2.2) = (List.length z2.2))))
 (.sub (F21 (((), (1 : Int)), z2.2)) fun z4 =>
 (.test (decide ((0 + (List.length z2.2)) ≤ (List.length z4.2)))
 (.sub (F22 ((win z4.2 0 (List.length z2.2)), (1 : Int))) fun z5 =>
 (.test (decide (z5 < 0))
 (.ret false)
 (.test (z5 != z4.1)
 (.ret false)
 (.sub (F19 (aN, aSize)) fun z6 =>
 (.test (decide ((0 + (List.length z6.2)) ≤ (List.length z6.2)))
 (.test (decide ((0 + (List.length z1.2)) ≤ (List.length z1.2)))
 (.sub (F27 ((win z6.2 0 (List.length z6.2)), (win z1.2 0 (List.length z1.2)))) fun z7 =>
 (.test (! z7)
 (.ret false)
 (.test (! (z6.1.2 == z1.1.2))
 (.ret false)
 (.test (decide ((0 + (List.length z2.2)) ≤ (List.length z4.2)))
 (.sub (F22 ((win z4.2 0 (List.length z2.2)), (1 : Int))) fun z8 =>
 (.test (decide (z8 < 0))
 (.ret false)
 (.test (z8 != z4.1)
 (.ret false)
 (.ret true))))
 .fail))))
 .fail)
 .fail)))))
 .fail))
 .fail))))
 .fail)
 .fail)))
 (.sub (Sum.getRight? z0) fun z9 =>
 (.sub (F19 (aN, aSize)) fun z10 =>
 (.test (decide ((0 + (List.length z10.2)) ≤ (List.length z10.2)))
 (.sub (F27 ((win z10.2 0 (List.length z10.2)), z9.1)) fun z11 =>
 (.test (! z11)
 (.ret false)
 (.test (! (z10.1.2 == z9.2))
 (.ret false)
 (.test (decide ((0 = 0) ∧ ((List.length z10.2) = (List.length z10.2))))
 (.sub (F21 (((), (1 : Int)), z10.2)) fun z12 =>
 (.test (decide ((0 + (List.length z10.2)) ≤ (List.length z12.2)))
 (.sub (F22 ((win z12.2 0 (List.length z10.2)), (1 : Int))) fun z13 =>
 (.test (decide (z13 < 0))
 (.ret false)
 (.test (z13 != z12.1)
 (.ret false)
 (.sub (F19 (aN, aSize)) fun z14 =>
 (.test (decide ((0 + (List.length z14.2)) ≤ (List.length z14.2)))
 (.sub (F27 ((win z14.2 0 (List.length z14.2)), z9.1)) fun z15 =>
 (.test (! z15)
 (.ret false)
 (.test (! (z14.1.2 == z9.2))
 (.ret false)
 (.test (decide ((0 + (List.length z10.2)) ≤ (List.length z12.2)))
 (.sub (F22 ((win z12.2 0 (List.length z10.2)), (1 : Int))) fun z16 =>
 (.test (decide (z16 < 0))
 (.ret false)
 (.test (z16 != z12.1)
 (.ret false)
 (.ret true))))
 .fail))))
 .fail)))))
 .fail))
 .fail))))
 .fail)))))
noncomputable def l_FnExactFirstEqualCut (v : (Int × Int)) : Option Bool := (l_FnExactFirstEqualCut_t v).run
noncomputable def l_FnExactFirstEqualCut_E : TEnv := (((((E0.add1 n_F20 F20_sh F20_fo F20).add1 n_F19 F19_sh F19_fo F19).add1 n_F27 F27_sh F27_fo F27).add1 n_F21 F21_sh F21_fo F21).add1 n_F22 F22_sh F22_fo F22)
theorem l_FnExactFirstEqualCut_Eok : (l_FnExactFirstEqualCut_E).OK := (((((E0ok.add1 F20_ok).add1 F19_ok).add1 F27_ok).add1 F21_ok).add1 F22_ok)
noncomputable def l_FnExactFirstEqualCut_told : Nat → Option SealT := fun id => none
theorem l_FnExactFirstEqualCut_ok : FOK Try.prog n_l_FnExactFirstEqualCut l_FnExactFirstEqualCut_sh l_FnExactFirstEqualCut_fo l_FnExactFirstEqualCut :=
  fn_ok (E := l_FnExactFirstEqualCut_E) (l_FnExactFirstEqualCut_Eok) (told := l_FnExactFirstEqualCut_told) (fl := []) (c := bodyOf fn_l_FnExactFirstEqualCut) (s := l_FnExactFirstEqualCut_sh) (l := l_FnExactFirstEqualCut_fo) (tree := l_FnExactFirstEqualCut_t) fnat_l_FnExactFirstEqualCut (by kernel_rfl) (by kernel_rfl) (by kernel_rfl) (loopsOK_of (ls := []) (by kernel_rfl) trivial) (fun v => by kernel_rfl)

theorem feR_short {n size : Int} {ds : List Dg} (h : feR n size = some ds) : ds.length ≤ 1000 := by
  unfold feR at h
  split at h
  · rename_i hC
    obtain ⟨N, rfl, f3, f8, f4, f5, f6, _⟩ := fe_facts hC
    rw [Int.toNat_natCast] at h
    exact cut_short (cutsK_cut f3 f8 f6 ds (List.mem_of_find?_eq_some h))
  · cases h
theorem l_FnExactFirstEqualCut_true (v : Int × Int) (hs : smallL ASh.small [.one (.si .i64), .one (.si .i64)] v) : l_FnExactFirstEqualCut v = some true := by
  obtain ⟨n, s⟩ := v
  have hb : s ≤ 9223372036854775807 := by
    have h2 : (Lit.int .i64 s).wf = true := hs.2
    simp [Lit.wf, IntKind.min, IntKind.max, IntKind.signed, IntKind.bits] at h2
    omega
  have hr := F19_eq n s hb
  have hsp := F20_eq n s hb
  rw [l_FnExactFirstEqualCut, l_FnExactFirstEqualCut_t]
  cases hf : feR n s with
  | none =>
    rw [hf] at hr hsp
    have hm := F21_eq 1 [] (by omega) (by simp)
    have hh := F22_eq 1 0 (by omega) (by omega)
    have hw : win (iotD 1 0) 0 0 = iotD 1 0 := by have := win_all (iotD 1 0); rwa [iotD_len] at this
    simp (config := { maxSteps := 10000000 }) [T.run, win_all, hr, hsp, F27_eq [] [] (by simp), hm, iotD_len, hw, hh]
  | some r =>
    rw [hf] at hr hsp
    have hl := feR_short hf
    have hm := F21_eq 1 r (by omega) (by omega)
    have hh := F22_eq 1 r.length (by omega) (by omega)
    have hw : win (iotD 1 r.length) 0 r.length = iotD 1 r.length := by have := win_all (iotD 1 r.length); rwa [iotD_len] at this
    have hx : ¬ ((1 : Int) + 2 * (r.length : Int) < 0) := by omega
    simp (config := { maxSteps := 10000000 }) [T.run, win_all, hr, hsp, F27_eq r r (by omega), hm, iotD_len, hw, hh, hx]


end Go.Proofs.W
