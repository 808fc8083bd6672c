/- Functions of the program, walked, and what they compute. -/
import Derived.Test.YtaanfhjiihekeaaGreatPmWk1
set_option linter.unusedVariables false
set_option linter.unusedSimpArgs false
set_option maxRecDepth 100000
set_option maxHeartbeats 4000000
namespace Go.Proofs.W
open Go Go.Gm Go.Proofs
open Go.RowKit Go.Shelf
def F6_sh : FSh := ⟨[(.one (.rw 0 0)), (.one (.fn n_F32))], [(.row 0 (.pair (.int .i64) (.int .i64)))]⟩

def F6_fo : List FO := [⟨[], [(.row 0 (.pair (.int .i64) (.int .i64)))]⟩]
noncomputable def F6_t : ((Unit × Unit) × List ((Int × Int))) → T (Unit × List ((Int × Int))) := fun (((), ()), x) =>
 (.sub (F61 (wu64 ((List.length x) : Int))) fun z0 =>
 (.test (decide ((0 = 0) ∧ ((List.length x) = (List.length x))))
 (.sub (F2 (((), ((0 : Int), (((List.length x) : Int), (z0, ())))), x)) fun z1 =>
 (.ret ((), z1.2)))
 .fail))
noncomputable def F6 (v : ((Unit × Unit) × List ((Int × Int)))) : Option (Unit × List ((Int × Int))) := (F6_t v).run
noncomputable def F6_E : TEnv := ((E0.add1 n_F61 F61_sh F61_fo F61).add1 n_F14 F2_sh F2_fo F2)
theorem F6_Eok : (F6_E).OK := ((E0ok.add1 F61_ok).add1 F2_ok)
noncomputable def F6_told : Nat → Option SealT := fun id => none
theorem F6_ok : FOK Tryz.prog n_F17 F6_sh F6_fo F6 :=
  fn_ok (E := F6_E) (F6_Eok) (told := F6_told) (fl := []) (c := bodyOf fn_F17) (s := F6_sh) (l := F6_fo) (tree := F6_t) fnat_F17 (by kernel_rfl) (by kernel_rfl) (by kernel_rfl) (loopsOK_of (ls := []) (by kernel_rfl) trivial) (fun v => by kernel_rfl)

theorem F6_eq (l : List Dg) (hl : l.length ≤ 12) : F6 (((), ()), l) = some ((), sortD l) := by
  have hw : wu64 (l.length : Int) = (l.length : Int) := IntWalk.u64_in _ ⟨by omega, by omega⟩
  have hz : F61 (wu64 (l.length : Int)) = some (Lib.bitLen l.length : Int) := by
    rw [hw]; unfold F61; rw [if_pos ⟨by omega, by omega⟩, Int.toNat_natCast]
  have w0 : w64 ((l.length : Int) - 0) = (l.length : Int) := by rw [w64_id (by omega) (by omega)]; omega
  have w1 : w64 ((0 : Int) + 1) = ((1 : Nat) : Int) := by rw [w64_id (by omega) (by omega)]; rfl
  have c0 : (l.length : Int) ≤ 12 := by omega
  have hins : F0 (((), ((0 : Int), ((l.length : Int), ()))), l) = some ((), sortD l) := by
    simp only [F0, F0_t, T.run, w1]
    by_cases h0 : l.length = 0
    · have : l = [] := List.eq_nil_of_length_eq_zero h0
      subst this
      simp only [F0_L1]
      rw [loopO_done (o := ((), []))]
      · simp [sortD]
      · simp [F0_L1_step, T.run]
    · rw [F0_isort (l.length - 1) 1 l (by omega) (by omega), isortD_eq]
      simp
  simp only [F6, F6_t, T.run, hz, Option.bind_some, F2, F2_t, F2_L2]
  rw [loopO_done (o := ((), sortD l))]
  · simp
  · simp only [F2_L2_step, T.run, w0, c0, decide_true, if_true, hins, Option.bind_some]
    simp


def F45_sh : FSh := ⟨[(.one (.sl (.int .i64) false false)), (.one (.sl (.int .i64) false false))], []⟩

def F45_L4_sh : LSh := ⟨(fun ex => match ex with | .norm => [(0, none), (1, none), (12, none), (13, none)] | .exit i => if i = 0 then [] else [] | .ret => [(4, none)]), [(0, (.one (.sl (.int .i64) false false))), (1, (.one (.sl (.int .i64) false false))), (12, (.one (.si .i64))), (13, (.one (.si .i64)))], [], [⟨.ret, [(4, (.one .sb))], []⟩, ⟨(.exit 0), [], []⟩], [], []⟩
noncomputable def F45_L4_step : (List (Int) × List (Int) × Int × Int) → T ((List (Int) × List (Int) × Int × Int) ⊕ (Bool ⊕ Unit)) := fun (s1, s2, t12, t13) =>
 (.test (decide (t13 < t12))
 (.test (decide ((0 ≤ t13) ∧ (t13 < ((List.length s1) : Int))))
 (.sub (s1[(Int.toNat t13)]?) fun z0 =>
 (.test (decide ((0 ≤ t13) ∧ (t13 < ((List.length s2) : Int))))
 (.sub (s2[(Int.toNat t13)]?) fun z1 =>
 (.test (z0 != z1)
 (.ret (Sum.inr (Sum.inl false)))
 (.ret (Sum.inl (s1, (s2, (t12, (w64 (t13 + 1)))))))))
 .fail))
 .fail)
 (.ret (Sum.inr (Sum.inr ()))))
noncomputable def F45_L4 (v : (List (Int) × List (Int) × Int × Int)) : Option (Bool ⊕ Unit) := loopO (fun v => (F45_L4_step v).run) v

def F45_fo : List FO := [⟨[(.one .sb)], []⟩]
noncomputable def F45_t : (List (Int) × List (Int)) → T Bool := fun (s1, s2) =>
 (.test (((List.length s1) : Int) != ((List.length s2) : Int))
 (.ret false)
 (.sub (F45_L4 (s1, (s2, (((List.length s1) : Int), (0 : Int))))) fun z0 =>
 (.test (Sum.isLeft z0)
 (.sub (Sum.getLeft? z0) fun z1 =>
 (.ret z1))
 (.sub (Sum.getRight? z0) fun z2 =>
 (.ret true)))))
noncomputable def F45 (v : (List (Int) × List (Int))) : Option Bool := (F45_t v).run
noncomputable def F45_E : TEnv := E0
theorem F45_Eok : (F45_E).OK := E0ok
noncomputable def F45_told : Nat → Option SealT := fun id => if id = 4 then some (LSh.told F45_L4_sh 0 (F45_L4_step)) else none
theorem F45_L4_ok : ToldOK Tryz.prog 0 (loopAt (bodyOf fn_F45) [0]) (LSh.told F45_L4_sh 0 (F45_L4_step)) :=
  loop_ok (E := F45_E) (F45_Eok) (told := F45_told) (l := F45_L4_sh) (step := F45_L4_step) (loopsOK_of (ls := []) (by kernel_rfl) trivial) (by kernel_rfl) (fun v => by kernel_rfl)
theorem F45_ok : FOK Tryz.prog n_F45 F45_sh F45_fo F45 :=
  fn_ok (E := F45_E) (F45_Eok) (told := F45_told) (fl := []) (c := bodyOf fn_F45) (s := F45_sh) (l := F45_fo) (tree := F45_t) fnat_F45 (by kernel_rfl) (by kernel_rfl) (by kernel_rfl) (loopsOK_of (ls := [loopAt (bodyOf fn_F45) [0]]) (by kernel_rfl) ⟨.inr ⟨_, by kernel_rfl, F45_L4_ok⟩, trivial⟩) (fun v => by kernel_rfl)

theorem F45_eq (a b : List Int) (hl : a.length < 4611686018427387904) : F45 (a, b) = some (decide (a = b)) := by
  simp only [F45, F45_t, T.run]
  by_cases he : a.length = b.length
  · have h := loop_any (step := fun v => (F45_L4_step v).run) (xs := a.zip b) (fun p => p.1 != p.2) (fun k => (a, (b, ((a.length : Int), (k : Int))))) (.inl false) (.inr ())
      (fun k x hx => by
        obtain ⟨x1, x2⟩ := x
        rw [List.getElem?_zip_eq_some] at hx
        obtain ⟨h1, h2⟩ := hx
        simp only at h1 h2
        have hk := getElem?_lt h1
        have hk2 := getElem?_lt h2
        have c0 : (k : Int) < (a.length : Int) := by omega
        have c1 : (0 : Int) ≤ (k : Int) ∧ (k : Int) < (a.length : Int) := by omega
        have c2 : (0 : Int) ≤ (k : Int) ∧ (k : Int) < (b.length : Int) := by omega
        have w1 : w64 ((k : Int) + 1) = ((k + 1 : Nat) : Int) := by rw [w64_id (by omega) (by omega)]; omega
        simp only [F45_L4_step, T.run, c0, c1, c2, decide_true, if_true, and_self, Int.toNat_natCast, h1, h2, Option.bind_some, w1]
        cases x1 != x2 <;> simp)
      (by simp [F45_L4_step, T.run, he])
    simp only [Int.natCast_zero] at h
    rw [zip_any_ne a b he] at h
    have hne : ((a.length : Int) != (b.length : Int)) = false := by simp [he]
    simp only [F45_L4, h, hne]
    by_cases hab : a = b <;> simp [hab]
  · have : a ≠ b := fun e => he (by rw [e])
    have hne : ((a.length : Int) != (b.length : Int)) = true := by simp; omega
    simp [hne, this]


def F69_sh : FSh := ⟨[(.one (.si .i64)), (.ag [(.si .i64), (.si .i64)])], []⟩

def F69_fo : List FO := [⟨[(.one .sb)], []⟩]
noncomputable def F69_t : (Int × (Int × Int)) → T Bool := fun (n, (d_0, d_1)) =>
 (.sub (F98 (d_0, ((0 : Int), (w64 (n - 1))))) fun z0 =>
 (.test z0
 (.sub (F98 (d_1, ((0 : Int), (w64 (n - 1))))) fun z1 =>
 (.test z1
 (.test (decide ((w64 (d_1 - d_0)) > 1))
 (.test (d_0 == 0)
 (.ret (! (d_1 == (w64 (n - 1)))))
 (.ret true))
 (.ret false))
 (.ret false)))
 (.ret false)))
noncomputable def F69 (v : (Int × (Int × Int))) : Option Bool := (F69_t v).run
noncomputable def F69_E : TEnv := (E0.add1 n_F98 F98_sh F98_fo F98)
theorem F69_Eok : (F69_E).OK := (E0ok.add1 F98_ok)
noncomputable def F69_told : Nat → Option SealT := fun id => none
theorem F69_ok : FOK Tryz.prog n_F69 F69_sh F69_fo F69 :=
  fn_ok (E := F69_E) (F69_Eok) (told := F69_told) (fl := []) (c := bodyOf fn_F69) (s := F69_sh) (l := F69_fo) (tree := F69_t) fnat_F69 (by kernel_rfl) (by kernel_rfl) (by kernel_rfl) (loopsOK_of (ls := []) (by kernel_rfl) trivial) (fun v => by kernel_rfl)

theorem F69_eq (n : Int) (d : Dg) (h1 : 0 ≤ n) (h2 : n ≤ 1000000) : F69 (n, d) = some (inDg n d) := by
  obtain ⟨a, b⟩ := d
  have w1 : w64 (n - 1) = n - 1 := w64_id (by omega) (by omega)
  simp only [F69, F69_t, T.run, F98_eq, Option.bind_some, w1, inDg]
  cases ha : inB 0 (n - 1) a with
  | false => simp
  | true =>
    cases hb : inB 0 (n - 1) b with
    | false => simp
    | true =>
      rw [inB_iff] at ha hb
      have w2 : w64 (b - a) = b - a := w64_id (by omega) (by omega)
      rw [w2]
      by_cases h4 : a = 0
      · subst h4
        rw [Int.sub_zero]
        by_cases h5 : b > 1 <;> simp [h5, beq_int]
      · by_cases h5 : b - a > 1 <;> simp [h5, h4]


def F88_sh : FSh := ⟨[(.ag [(.si .i64), (.si .i64)]), (.ag [(.si .i64), (.si .i64)])], []⟩

def F88_fo : List FO := [⟨[(.one .sb)], []⟩]
noncomputable def F88_t : ((Int × Int) × (Int × Int)) → T Bool := fun ((d_0, d_1), (e_0, e_1)) =>
 (.test (decide (d_0 < e_0))
 (.test (decide (e_0 < d_1))
 (.test (decide (d_1 < e_1))
 (.ret true)
 (.test (decide (e_0 < d_0))
 (.test (decide (d_0 < e_1))
 (.ret (decide (e_1 < d_1)))
 (.ret false))
 (.ret false)))
 (.test (decide (e_0 < d_0))
 (.test (decide (d_0 < e_1))
 (.ret (decide (e_1 < d_1)))
 (.ret false))
 (.ret false)))
 (.test (decide (e_0 < d_0))
 (.test (decide (d_0 < e_1))
 (.ret (decide (e_1 < d_1)))
 (.ret false))
 (.ret false)))
noncomputable def F88 (v : ((Int × Int) × (Int × Int))) : Option Bool := (F88_t v).run
noncomputable def F88_E : TEnv := E0
theorem F88_Eok : (F88_E).OK := E0ok
noncomputable def F88_told : Nat → Option SealT := fun id => none
theorem F88_ok : FOK Tryz.prog n_F88 F88_sh F88_fo F88 :=
  fn_ok (E := F88_E) (F88_Eok) (told := F88_told) (fl := []) (c := bodyOf fn_F88) (s := F88_sh) (l := F88_fo) (tree := F88_t) fnat_F88 (by kernel_rfl) (by kernel_rfl) (by kernel_rfl) (loopsOK_of (ls := []) (by kernel_rfl) trivial) (fun v => by kernel_rfl)

theorem F88_eq (d e : Dg) : F88 (d, e) = some (crossD d e) := by
  obtain ⟨a, b⟩ := d
  obtain ⟨c, f⟩ := e
  simp only [F88, F88_t, T.run, crossD]
  by_cases h1 : a < c <;> by_cases h2 : c < b <;> by_cases h3 : b < f <;> by_cases h4 : c < a <;> by_cases h5 : a < f <;> by_cases h6 : f < b <;> simp [h1, h2, h3, h4, h5, h6]


def F29_sh : FSh := ⟨[(.ag [(.si .i64), (.si .i64)]), (.one (.pf 0 0 0))], [(.rcd 0 [(.si .i64), (.si .i64)])]⟩

def F29_fo : List FO := [⟨[(.one .sb)], [(.rcd 0 [(.si .i64), (.si .i64)])]⟩]
noncomputable def F29_t : (((Int × Int) × Unit) × (Int × Int)) → T (Bool × (Int × Int)) := fun (((e_0, e_1), ()), (t1_0, t1_1)) =>
 (.sub (F88 ((t1_0, t1_1), (e_0, e_1))) fun z0 =>
 (.ret (z0, (t1_0, t1_1))))
noncomputable def F29 (v : (((Int × Int) × Unit) × (Int × Int))) : Option (Bool × (Int × Int)) := (F29_t v).run
noncomputable def F29_E : TEnv := (E0.add1 n_F88 F88_sh F88_fo F88)
theorem F29_Eok : (F29_E).OK := (E0ok.add1 F88_ok)
noncomputable def F29_told : Nat → Option SealT := fun id => none
theorem F29_ok : FOK Tryz.prog n_F29 F29_sh F29_fo F29 :=
  fn_ok (E := F29_E) (F29_Eok) (told := F29_told) (fl := []) (c := bodyOf fn_F29) (s := F29_sh) (l := F29_fo) (tree := F29_t) fnat_F29 (by kernel_rfl) (by kernel_rfl) (by kernel_rfl) (loopsOK_of (ls := []) (by kernel_rfl) trivial) (fun v => by kernel_rfl)

def F5_sh : FSh := ⟨[(.one (.sl (.pair (.int .i64) (.int .i64)) false false)), (.clo n_F29 [(.one (.pf 0 0 0))])], [(.rcd 0 [(.si .i64), (.si .i64)])]⟩

def F5_L2_sh : LSh := ⟨(fun ex => match ex with | .norm => [(0, none), (1, none), (7, none), (8, none)] | .exit i => if i = 0 then [] else [] | .ret => [(4, none)]), [(0, (.one (.sl (.pair (.int .i64) (.int .i64)) false false))), (1, (.clo n_F29 [(.one (.pf 0 0 0))])), (7, (.one (.si .i64))), (8, (.one (.si .i64)))], [(.rcd 0 [(.si .i64), (.si .i64)])], [⟨.ret, [(4, (.one (.si .i64)))], [(.rcd 0 [(.si .i64), (.si .i64)])]⟩, ⟨(.exit 0), [], [(.rcd 0 [(.si .i64), (.si .i64)])]⟩], [], []⟩
noncomputable def F5_L2_step : ((List ((Int × Int)) × Unit × Int × Int) × (Int × Int)) → T (((List ((Int × Int)) × Unit × Int × Int) × (Int × Int)) ⊕ ((Int × (Int × Int)) ⊕ (Unit × (Int × Int)))) := fun ((s, (), t7, t8), (r0_0, r0_1)) =>
 (.test (decide (t8 < t7))
 (.test (decide ((0 ≤ t8) ∧ (t8 < ((List.length s) : Int))))
 (.sub (s[(Int.toNat t8)]?) fun z0 =>
 (.sub (F29 (((z0.1, z0.2), ()), (r0_0, r0_1))) fun z1 =>
 (.test z1.1
 (.ret (Sum.inr (Sum.inl (t8, (z1.2.1, z1.2.2)))))
 (.ret (Sum.inl ((s, ((), (t7, (w64 (t8 + 1))))), (z1.2.1, z1.2.2)))))))
 .fail)
 (.ret (Sum.inr (Sum.inr ((), (r0_0, r0_1))))))
noncomputable def F5_L2 (v : ((List ((Int × Int)) × Unit × Int × Int) × (Int × Int))) : Option ((Int × (Int × Int)) ⊕ (Unit × (Int × Int))) := loopO (fun v => (F5_L2_step v).run) v

def F5_fo : List FO := [⟨[(.one (.si .i64))], [(.rcd 0 [(.si .i64), (.si .i64)])]⟩]
noncomputable def F5_t : ((List ((Int × Int)) × Unit) × (Int × Int)) → T (Int × (Int × Int)) := fun ((s, ()), (r0_0, r0_1)) =>
 (.sub (F5_L2 ((s, ((), (((List.length s) : Int), (0 : Int)))), (r0_0, r0_1))) fun z0 =>
 (.test (Sum.isLeft z0)
 (.sub (Sum.getLeft? z0) fun z1 =>
 (.ret (z1.1, (z1.2.1, z1.2.2))))
 (.sub (Sum.getRight? z0) fun z2 =>
 (.ret ((-1), (z2.2.1, z2.2.2))))))
noncomputable def F5 (v : ((List ((Int × Int)) × Unit) × (Int × Int))) : Option (Int × (Int × Int)) := (F5_t v).run
noncomputable def F5_E : TEnv := (E0.add1 n_F29 F29_sh F29_fo F29)
theorem F5_Eok : (F5_E).OK := (E0ok.add1 F29_ok)
noncomputable def F5_told : Nat → Option SealT := fun id => if id = 2 then some (LSh.told F5_L2_sh 1 (F5_L2_step)) else none
theorem F5_L2_ok : ToldOK Tryz.prog 1 (loopAt (bodyOf fn_F16) [0]) (LSh.told F5_L2_sh 1 (F5_L2_step)) :=
  loop_ok (E := F5_E) (F5_Eok) (told := F5_told) (l := F5_L2_sh) (step := F5_L2_step) (loopsOK_of (ls := []) (by kernel_rfl) trivial) (by kernel_rfl) (fun v => by kernel_rfl)
theorem F5_ok : FOK Tryz.prog n_F16 F5_sh F5_fo F5 :=
  fn_ok (E := F5_E) (F5_Eok) (told := F5_told) (fl := []) (c := bodyOf fn_F16) (s := F5_sh) (l := F5_fo) (tree := F5_t) fnat_F16 (by kernel_rfl) (by kernel_rfl) (by kernel_rfl) (loopsOK_of (ls := [loopAt (bodyOf fn_F16) [0]]) (by kernel_rfl) ⟨.inr ⟨_, by kernel_rfl, F5_L2_ok⟩, trivial⟩) (fun v => by kernel_rfl)

def F4_sh : FSh := ⟨[(.one (.sl (.pair (.int .i64) (.int .i64)) false false)), (.clo n_F29 [(.one (.pf 0 0 0))])], [(.rcd 0 [(.si .i64), (.si .i64)])]⟩

def F4_fo : List FO := [⟨[(.one .sb)], [(.rcd 0 [(.si .i64), (.si .i64)])]⟩]
noncomputable def F4_t : ((List ((Int × Int)) × Unit) × (Int × Int)) → T (Bool × (Int × Int)) := fun ((s, ()), (r0_0, r0_1)) =>
 (.sub (F5 ((s, ()), (r0_0, r0_1))) fun z0 =>
 (.ret ((decide (z0.1 ≥ 0)), (z0.2.1, z0.2.2))))
noncomputable def F4 (v : ((List ((Int × Int)) × Unit) × (Int × Int))) : Option (Bool × (Int × Int)) := (F4_t v).run
noncomputable def F4_E : TEnv := (E0.add1 n_F16 F5_sh F5_fo F5)
theorem F4_Eok : (F4_E).OK := (E0ok.add1 F5_ok)
noncomputable def F4_told : Nat → Option SealT := fun id => none
theorem F4_ok : FOK Tryz.prog n_F15 F4_sh F4_fo F4 :=
  fn_ok (E := F4_E) (F4_Eok) (told := F4_told) (fl := []) (c := bodyOf fn_F15) (s := F4_sh) (l := F4_fo) (tree := F4_t) fnat_F15 (by kernel_rfl) (by kernel_rfl) (by kernel_rfl) (loopsOK_of (ls := []) (by kernel_rfl) trivial) (fun v => by kernel_rfl)

theorem F4_eq (s : List Dg) (d : Dg) (hl : s.length < 4611686018427387904) : F4 ((s, ()), d) = some (s.any (crossD d), d) := by
  obtain ⟨a, b⟩ := d
  have hc : ∀ e : Dg, F29 ((e, ()), (a, b)) = some (crossD (a, b) e, (a, b)) := by
    intro e
    obtain ⟨e0, e1⟩ := e
    simp [F29, F29_t, T.run, F88_eq]
  have h := loop_find (step := fun v => (F5_L2_step v).run) (xs := s) (crossD (a, b)) (fun k => ((s, ((), ((s.length : Int), (k : Int)))), (a, b))) (fun k => .inl ((k : Int), (a, b))) (.inr ((), (a, b)))
    (fun k x hx => by
      have hlt := getElem?_lt hx
      have h1 : (k : Int) < (s.length : Int) := by omega
      have h2 : (0 : Int) ≤ k ∧ (k : Int) < (s.length : Int) := by omega
      simp only [F5_L2_step, T.run, Int.toNat_natCast, hx, Option.bind_some, h1, h2, decide_true, if_true, and_self, hc]
      rw [w64_id (z := (k : Int) + 1) (by omega) (by omega)]
      cases hv : crossD (a, b) x <;> simp)
    (by simp [F5_L2_step, T.run])
  rw [show ((0 : Nat) : Int) = 0 from rfl] at h
  have hi : F5 ((s, ()), (a, b)) = some (idxI (crossD (a, b)) s, (a, b)) := by
    simp only [F5, F5_t, T.run, F5_L2]
    rw [h]
    simp only [idxI]
    cases hf : s.findIdx? (crossD (a, b)) <;> simp [Sum.isLeft]
  simp only [F4, F4_t, T.run, hi, Option.bind_some, idxI_ge]


def F37_sh : FSh := ⟨[(.one (.si .i64)), (.one (.sl (.pair (.int .i64) (.int .i64)) false false))], []⟩

def F37_L4_sh : LSh := ⟨(fun ex => match ex with | .norm => [(0, none), (1, none), (17, none), (18, none), (19, none)] | .exit i => if i = 0 then [] else [] | .ret => [(4, none)]), [(0, (.one (.si .i64))), (1, (.one (.sl (.pair (.int .i64) (.int .i64)) false false))), (17, (.one (.sl (.pair (.int .i64) (.int .i64)) false false))), (18, (.one (.si .i64))), (19, (.one (.si .i64)))], [], [⟨.ret, [(4, (.one .sb))], []⟩, ⟨(.exit 0), [], []⟩], [], []⟩
noncomputable def F37_L4_step : (Int × List ((Int × Int)) × List ((Int × Int)) × Int × Int) → T ((Int × List ((Int × Int)) × List ((Int × Int)) × Int × Int) ⊕ (Bool ⊕ Unit)) := fun (n, ds, t17, t18, t19) =>
 (.test (decide (t19 < t18))
 (.test (decide ((0 ≤ t19) ∧ (t19 < ((List.length t17) : Int))))
 (.sub (t17[(Int.toNat t19)]?) fun z0 =>
 (.sub (F69 (n, (z0.1, z0.2))) fun z1 =>
 (.test (! z1)
 (.ret (Sum.inr (Sum.inl false)))
 (.test (decide (t19 > 0))
 (.test (decide ((0 ≤ (w64 (t19 - 1))) ∧ ((w64 (t19 - 1)) < ((List.length ds) : Int))))
 (.sub (ds[(Int.toNat (w64 (t19 - 1)))]?) fun z2 =>
 (.sub (F32 ((z2.1, z2.2), (z0.1, z0.2))) fun z3 =>
 (.test (decide (z3 ≥ 0))
 (.ret (Sum.inr (Sum.inl false)))
 (.test (decide (0 ≤ t19))
 (.test (decide ((0 ≤ (Int.toNat t19)) ∧ ((Int.toNat t19) ≤ (List.length ds))))
 (.sub (F4 (((win ds 0 ((Int.toNat t19) - 0)), ()), (z0.1, z0.2))) fun z4 =>
 (.test z4.1
 (.ret (Sum.inr (Sum.inl false)))
 (.ret (Sum.inl (n, (ds, (t17, (t18, (w64 (t19 + 1))))))))))
 .fail)
 .fail))))
 .fail)
 (.test (decide (0 ≤ t19))
 (.test (decide ((0 ≤ (Int.toNat t19)) ∧ ((Int.toNat t19) ≤ (List.length ds))))
 (.sub (F4 (((win ds 0 ((Int.toNat t19) - 0)), ()), (z0.1, z0.2))) fun z5 =>
 (.test z5.1
 (.ret (Sum.inr (Sum.inl false)))
 (.ret (Sum.inl (n, (ds, (t17, (t18, (w64 (t19 + 1))))))))))
 .fail)
 .fail)))))
 .fail)
 (.ret (Sum.inr (Sum.inr ()))))
noncomputable def F37_L4 (v : (Int × List ((Int × Int)) × List ((Int × Int)) × Int × Int)) : Option (Bool ⊕ Unit) := loopO (fun v => (F37_L4_step v).run) v

def F37_fo : List FO := [⟨[(.one .sb)], []⟩]
noncomputable def F37_t : (Int × List ((Int × Int))) → T Bool := fun (n, ds) =>
 (.sub (F79 n) fun z0 =>
 (.test (! z0)
 (.ret false)
 (.test (((List.length ds) : Int) != (w64 (n - 3)))
 (.ret false)
 (.sub (F37_L4 (n, (ds, (ds, (((List.length ds) : Int), (0 : Int)))))) fun z1 =>
 (.test (Sum.isLeft z1)
 (.sub (Sum.getLeft? z1) fun z2 =>
 (.ret z2))
 (.sub (Sum.getRight? z1) fun z3 =>
 (.ret true)))))))
noncomputable def F37 (v : (Int × List ((Int × Int)))) : Option Bool := (F37_t v).run
noncomputable def F37_E : TEnv := ((((E0.add1 n_F79 F79_sh F79_fo F79).add1 n_F69 F69_sh F69_fo F69).add1 n_F32 F32_sh F32_fo F32).add1 n_F15 F4_sh F4_fo F4)
theorem F37_Eok : (F37_E).OK := ((((E0ok.add1 F79_ok).add1 F69_ok).add1 F32_ok).add1 F4_ok)
noncomputable def F37_told : Nat → Option SealT := fun id => if id = 4 then some (LSh.told F37_L4_sh 0 (F37_L4_step)) else none
theorem F37_L4_ok : ToldOK Tryz.prog 0 (loopAt (bodyOf fn_F37) [0]) (LSh.told F37_L4_sh 0 (F37_L4_step)) :=
  loop_ok (E := F37_E) (F37_Eok) (told := F37_told) (l := F37_L4_sh) (step := F37_L4_step) (loopsOK_of (ls := []) (by kernel_rfl) trivial) (by kernel_rfl) (fun v => by kernel_rfl)
theorem F37_ok : FOK Tryz.prog n_F37 F37_sh F37_fo F37 :=
  fn_ok (E := F37_E) (F37_Eok) (told := F37_told) (fl := []) (c := bodyOf fn_F37) (s := F37_sh) (l := F37_fo) (tree := F37_t) fnat_F37 (by kernel_rfl) (by kernel_rfl) (by kernel_rfl) (loopsOK_of (ls := [loopAt (bodyOf fn_F37) [0]]) (by kernel_rfl) ⟨.inr ⟨_, by kernel_rfl, F37_L4_ok⟩, trivial⟩) (fun v => by kernel_rfl)

theorem F37_eq (n : Int) (ds : List Dg) (hl : ds.length < 4611686018427387904) : F37 (n, ds) = some (isTri n ds) := by
  simp only [F37, F37_t, T.run, F79, F79_t, F98_eq, Option.bind_some, isTri]
  cases hn : inB 3 12 n with
  | false => simp
  | true =>
    rw [inB_iff] at hn
    rw [w64_id (z := n - 3) (by omega) (by omega)]
    by_cases he : (ds.length : Int) = n - 3
    · have h := loop_any (step := fun v => (F37_L4_step v).run) (xs := List.range ds.length) (badT n ds) (fun k => (n, (ds, (ds, ((ds.length : Int), (k : Int)))))) (.inl false) (.inr ())
        (fun k x hx => by
          obtain ⟨hk, e⟩ := List.getElem?_eq_some_iff.1 hx
          simp only [List.getElem_range] at e
          subst e
          rw [List.length_range] at hk
          have g0 := gD_some hk
          have c0 : (k : Int) < (ds.length : Int) := by omega
          have c1 : (0 : Int) ≤ (k : Int) ∧ (k : Int) < (ds.length : Int) := by omega
          have w1 : w64 ((k : Int) + 1) = ((k + 1 : Nat) : Int) := by rw [w64_id (by omega) (by omega)]; omega
          have c2 : 0 ≤ k ∧ k ≤ ds.length := by omega
          have c3 : (0 : Int) ≤ (k : Int) := by omega
          have tw : win ds 0 (k - 0) = ds.take k := win_take _ _
          have hlt : (ds.take k).length < 4611686018427387904 := by simp; omega
          simp only [F37_L4_step, T.run, c0, c1, c2, c3, decide_true, if_true, and_self, Int.toNat_natCast, g0, Option.bind_some, F69_eq n (gD ds k) (by omega) (by omega), tw, F4_eq _ (gD ds k) hlt, w1, badT]
          rcases Bool.eq_false_or_eq_true (inDg n (gD ds k)) with hd | hd
          rotate_left
          · simp [hd]
          · simp only [hd]
            by_cases hk0 : 0 < k
            · have w2 : w64 ((k : Int) - 1) = ((k - 1 : Nat) : Int) := by rw [w64_id (by omega) (by omega)]; omega
              have c4 : (0 : Int) ≤ ((k - 1 : Nat) : Int) ∧ ((k - 1 : Nat) : Int) < (ds.length : Int) := by omega
              have g1 := gD_some (show k - 1 < ds.length by omega)
              have c5 : (k : Int) > 0 := by omega
              simp only [w2, c4, c5, decide_true, if_true, and_self, Int.toNat_natCast, g1, Option.bind_some, F32_eq, cmpD_ge, hk0]
              cases ltD (gD ds (k - 1)) (gD ds k) <;> simp
              cases (ds.take k).any (crossD (gD ds k)) <;> simp
            · have c5 : ¬ (k : Int) > 0 := by omega
              simp only [c5, decide_false, hk0, if_false]
              cases (ds.take k).any (crossD (gD ds k)) <;> simp)
        (by simp [F37_L4_step, T.run])
      rw [show ((0 : Nat) : Int) = 0 from rfl] at h
      have he' : ((ds.length : Int) != n - 3) = false := by simp [he]
      simp only [F37_L4, h, he', decide_eq_true he]
      cases (List.range ds.length).any (badT n ds) <;> simp
    · simp [he]


def F63_sh : FSh := ⟨[.one (.si .u64), .one (.si .u64)], []⟩
def F63_fo : List FO := [⟨[.one (.si .u64), .one (.si .u64)], []⟩]
def F63 (v : Int × Int) : Option (Int × Int) := if 0 ≤ v.1 ∧ v.1 < 18446744073709551616 ∧ 0 ≤ v.2 ∧ v.2 < 18446744073709551616 then some (((v.1.toNat * v.2.toNat / 18446744073709551616 : Nat) : Int), ((v.1.toNat * v.2.toNat % 18446744073709551616 : Nat) : Int)) else none
def F63_ren : Shelf.Ren := ⟨fun k => if k = 212 then n_F63 else if k = 263 then 253 else 254, fun t => if t = 46 then 170 else if t = 51 then 190 else if t = 146 then 192 else if t = 148 then 194 else 119, fun x => x⟩
theorem F63_lay : Lays.n212 Tryz.prog F63_ren :=
  { mixed := by kernel_rfl, f212 := by kernel_rfl, f263 := by kernel_rfl, f264 := by kernel_rfl, t46 := by kernel_rfl, a46 := fun w => by kernel_rfl, z46 := fun w => by kernel_rfl, v46 := fun w => by kernel_rfl, t51 := by kernel_rfl, a51 := fun w => by kernel_rfl, z51 := fun w => by kernel_rfl, v51 := fun w => by kernel_rfl, t53 := by kernel_rfl, a53 := fun w => by kernel_rfl, z53 := fun w => by kernel_rfl, v53 := fun w => by kernel_rfl, t146 := by kernel_rfl, a146 := fun w => by kernel_rfl, z146 := fun w => by kernel_rfl, v146 := fun w => by kernel_rfl, t148 := by kernel_rfl, a148 := fun w => by kernel_rfl, z148 := fun w => by kernel_rfl, v148 := fun w => by kernel_rfl }
theorem F63_ok : FOK Tryz.prog n_F63 F63_sh F63_fo F63 :=
  bitsMul_ok ⟨_, fnat_F63, by kernel_rfl, by kernel_rfl⟩ (ρr := F63_ren) rfl F63_lay

def F38_sh : FSh := ⟨[(.one (.sl (.int .i64) false false)), (.one (.si .i64))], []⟩

def F38_L8_sh : LSh := ⟨(fun ex => match ex with | .norm => [(7, none), (8, none)] | .exit i => if i = 0 then [(7, none)] else [] | .ret => [(4, none)]), [(7, (.one (.rw 0 0))), (8, (.one (.si .i64)))], [(.row 0 (.int .i64))], [⟨(.exit 0), [(7, (.one (.rw 0 0)))], [(.row 0 (.int .i64))]⟩], [], []⟩
noncomputable def F38_L8_step : ((Unit × Int) × List (Int)) → T (((Unit × Int) × List (Int)) ⊕ (Unit × List (Int))) := fun (((), n), newslice) =>
 (.test (decide (n < ((List.length newslice) : Int)))
 (.test (decide (0 ≤ n))
 (.test (decide (((Int.toNat n) ≤ (List.length newslice)) ∧ ((List.length newslice) ≤ (List.length newslice))))
 (.test (decide (0 ≤ n))
 (.test (decide ((0 ≤ (Int.toNat n)) ∧ ((Int.toNat n) ≤ (List.length newslice))))
 (.test (decide ((0 + ((Int.toNat n) - 0)) ≤ (List.length newslice)))
 (.test (decide ((0 < (min (List.length (win newslice 0 ((Int.toNat n) - 0))) ((List.length newslice) - (Int.toNat n)))) ∧ (((0 + (Int.toNat n)) + ((List.length newslice) - (Int.toNat n))) ≤ (List.length newslice))))
 (.test (decide ((0 = 0) ∧ ((List.length newslice) = (List.length (spliceT newslice (0 + (Int.toNat n)) (List.take (min (List.length (win newslice 0 ((Int.toNat n) - 0))) ((List.length newslice) - (Int.toNat n))) (win newslice 0 ((Int.toNat n) - 0))))))))
 (.ret (Sum.inl (((), (w64 (n + (((min (List.length (win newslice 0 ((Int.toNat n) - 0))) ((List.length newslice) - (Int.toNat n))) : Nat) : Int)))), (spliceT newslice (0 + (Int.toNat n)) (List.take (min (List.length (win newslice 0 ((Int.toNat n) - 0))) ((List.length newslice) - (Int.toNat n))) (win newslice 0 ((Int.toNat n) - 0)))))))
 .fail)
 .fail)
 .fail)
 .fail)
 .fail)
 .fail)
 .fail)
 (.test (decide ((0 = 0) ∧ ((List.length newslice) = (List.length newslice))))
 (.ret (Sum.inr ((), newslice)))
 .fail))
noncomputable def F38_L8 (v : ((Unit × Int) × List (Int))) : Option (Unit × List (Int)) := loopO (fun v => (F38_L8_step v).run) v

def F38_fo : List FO := [⟨[(.one (.rw 0 0))], [(.row 0 (.int .i64))]⟩]
noncomputable def F38_t : (List (Int) × Int) → T (Unit × List (Int)) := fun (x, count) =>
 (.test (decide (count < 0))
 .fail
 (.sub (F63 ((wu64 ((List.length x) : Int)), (wu64 count))) fun z0 =>
 (.test (decide (z0.1 > 0))
 .fail
 (.test (decide (z0.2 > 9223372036854775807))
 .fail
 (.test (decide ((0 ≤ (w64 z0.2)) ∧ (((w64 z0.2) ≤ (w64 z0.2)) ∧ (((Int.toNat (w64 z0.2)) * 9) ≤ 140737488355328))))
 (.test (decide ((0 < (min (List.length x) (Int.toNat (w64 z0.2)))) ∧ ((0 + (Int.toNat (w64 z0.2))) ≤ (List.length (List.replicate (Int.toNat (w64 z0.2)) (0 : Int))))))
 (.test (decide ((0 = 0) ∧ ((Int.toNat (w64 z0.2)) = (List.length (spliceT (List.replicate (Int.toNat (w64 z0.2)) (0 : Int)) 0 (List.take (min (List.length x) (Int.toNat (w64 z0.2))) x))))))
 (.sub (F38_L8 (((), (((min (List.length x) (Int.toNat (w64 z0.2))) : Nat) : Int)), (spliceT (List.replicate (Int.toNat (w64 z0.2)) (0 : Int)) 0 (List.take (min (List.length x) (Int.toNat (w64 z0.2))) x)))) fun z1 =>
 (.test (decide ((0 = 0) ∧ ((List.length z1.2) = (List.length z1.2))))
 (.ret ((), z1.2))
 .fail))
 .fail)
 .fail)
 .fail)))))
noncomputable def F38 (v : (List (Int) × Int)) : Option (Unit × List (Int)) := (F38_t v).run
noncomputable def F38_E : TEnv := (E0.add1 n_F63 F63_sh F63_fo F63)
theorem F38_Eok : (F38_E).OK := (E0ok.add1 F63_ok)
noncomputable def F38_told : Nat → Option SealT := fun id => if id = 8 then some (LSh.told F38_L8_sh 0 (F38_L8_step)) else none
theorem F38_L8_ok : ToldOK Tryz.prog 0 (loopAt (bodyOf fn_F38) [0]) (LSh.told F38_L8_sh 0 (F38_L8_step)) :=
  loop_ok (E := F38_E) (F38_Eok) (told := F38_told) (l := F38_L8_sh) (step := F38_L8_step) (loopsOK_of (ls := []) (by kernel_rfl) trivial) (by kernel_rfl) (fun v => by kernel_rfl)
theorem F38_ok : FOK Tryz.prog n_F38 F38_sh F38_fo F38 :=
  fn_ok (E := F38_E) (F38_Eok) (told := F38_told) (fl := []) (c := bodyOf fn_F38) (s := F38_sh) (l := F38_fo) (tree := F38_t) fnat_F38 (by kernel_rfl) (by kernel_rfl) (by kernel_rfl) (loopsOK_of (ls := [loopAt (bodyOf fn_F38) [0]]) (by kernel_rfl) ⟨.inr ⟨_, by kernel_rfl, F38_L8_ok⟩, trivial⟩) (fun v => by kernel_rfl)

theorem F38_one (n : Nat) (h1 : 1 ≤ n) (h2 : n ≤ 1000000) : F38 ([1], (n : Int)) = some ((), List.replicate n 1) := by
  have hm : F63 (wu64 (([1] : List Int).length : Int), wu64 (n : Int)) = some (0, (n : Int)) := by
    have e1 : wu64 (([1] : List Int).length : Int) = 1 := IntWalk.u64_in _ ⟨by simp, by simp⟩
    have e2 : wu64 (n : Int) = (n : Int) := IntWalk.u64_in _ ⟨by omega, by omega⟩
    rw [e1, e2]
    unfold F63
    simp only []
    rw [if_pos ⟨by omega, by omega, by omega, by omega⟩]
    have t1 : (1 : Int).toNat = 1 := rfl
    rw [t1, Int.toNat_natCast, Nat.one_mul, Nat.div_eq_of_lt (by omega), Nat.mod_eq_of_lt (by omega)]
    rfl
  have hl : ∀ m k, k + m = n → 1 ≤ k → F38_L8 (((), (k : Int)), List.replicate k 1 ++ List.replicate (n - k) 0) = some ((), List.replicate n 1) := by
    intro m
    induction m using Nat.strongRecOn with
    | ind m ih =>
      intro k hk hk1
      have hlen : (List.replicate k (1 : Int) ++ List.replicate (n - k) 0).length = n := by simp; omega
      by_cases hm : m = 0
      · have : k = n := by omega
        subst this
        rw [Nat.sub_self, List.replicate_zero, List.append_nil]
        simp only [F38_L8]
        exact loopO_done (by simp [F38_L8_step, T.run])
      · have ih := ih (m - min k (n - k)) (by omega) (k + min k (n - k)) (by omega) (by omega)
        simp only [F38_L8] at ih ⊢
        rw [← ih]
        refine loopO_next ?_
        have c0 : (k : Int) < (n : Int) := by omega
        have c1 : (0 : Int) ≤ (k : Int) := by omega
        have c2 : k ≤ n ∧ n ≤ n := by omega
        have c3 : 0 ≤ k ∧ k ≤ n := by omega
        have tw : win (List.replicate k (1 : Int) ++ List.replicate (n - k) 0) 0 (k - 0) = List.replicate k 1 := by
          rw [win_take, Nat.sub_zero, List.take_left' (by simp)]
        have c4 : 0 + (k - 0) ≤ n := by omega
        have c5 : 0 < min k (n - k) ∧ 0 + k + (n - k) ≤ n := by omega
        have w1 : w64 ((k : Int) + ((min k (n - k) : Nat) : Int)) = ((k + min k (n - k) : Nat) : Int) := by rw [w64_id (by omega) (by omega)]; omega
        have sp : spliceT (List.replicate k (1 : Int) ++ List.replicate (n - k) 0) (0 + k) (List.take (min k (n - k)) (List.replicate k 1)) = List.replicate (k + min k (n - k)) 1 ++ List.replicate (n - (k + min k (n - k))) 0 := by
          unfold spliceT
          rw [Nat.zero_add, List.take_left' (by simp), List.take_replicate, List.length_replicate, List.drop_append, List.drop_replicate, List.drop_replicate, List.length_replicate]
          rw [show k - (k + min (min k (n - k)) k) = 0 by omega, show min (min k (n - k)) k = min k (n - k) by omega, show n - k - (k + min k (n - k) - k) = n - (k + min k (n - k)) by omega, List.replicate_zero, List.nil_append, ← List.append_assoc, List.replicate_append_replicate]
        have lsp : n = (List.replicate (k + min k (n - k)) (1 : Int) ++ List.replicate (n - (k + min k (n - k))) 0).length := by simp; omega
        simp only [F38_L8_step, T.run, hlen, c0, c1, c2, c3, c4, c5, decide_true, if_true, and_self, Int.toNat_natCast, tw, List.length_replicate, sp, w1]
        rw [← lsp]
        simp
  simp only [F38, F38_t, T.run, hm, Option.bind_some]
  have w1 : w64 (n : Int) = (n : Int) := w64_id (by omega) (by omega)
  have c0 : ¬ ((n : Int) < 0) := by omega
  have c1 : ¬ ((n : Int) > 9223372036854775807) := by omega
  have c2 : 0 ≤ (n : Int) ∧ (n : Int) ≤ (n : Int) ∧ n * 9 ≤ 140737488355328 := by omega
  have m1 : min ([1] : List Int).length n = 1 := by simp; omega
  have sp : spliceT (List.replicate n (0 : Int)) 0 (List.take 1 [1]) = List.replicate 1 1 ++ List.replicate (n - 1) 0 := by
    unfold spliceT
    simp
  have lsp : n = (List.replicate 1 (1 : Int) ++ List.replicate (n - 1) 0).length := by simp; omega
  simp only [c0, c1, w1, decide_false, Bool.false_eq_true, if_false, Int.toNat_natCast, c2, and_self, decide_true, if_true, m1, sp, hl (n - 1) 1 (by omega) (Nat.le_refl 1), Option.bind_some]
  simp only [List.length_replicate, Nat.zero_add]
  rw [← lsp]
  simp


def F85_sh : FSh := ⟨[(.one (.si .i64)), (.one (.sl (.pair (.int .i64) (.int .i64)) false false))], []⟩

def F85_L3_sh : LSh := ⟨(fun ex => match ex with | .norm => [(5, none), (11, none), (12, none), (13, none)] | .exit i => if i = 0 then [(5, none)] else [] | .ret => [(4, none)]), [(5, (.one (.rw 0 0))), (11, (.one (.sl (.pair (.int .i64) (.int .i64)) false false))), (12, (.one (.si .i64))), (13, (.one (.si .i64)))], [(.row 0 (.int .i64))], [⟨(.exit 0), [(5, (.one (.rw 0 0)))], [(.row 0 (.int .i64))]⟩], [], []⟩
noncomputable def F85_L3_step : ((Unit × List ((Int × Int)) × Int × Int) × List (Int)) → T (((Unit × List ((Int × Int)) × Int × Int) × List (Int)) ⊕ (Unit × List (Int))) := fun (((), t11, t12, t13), out) =>
 (.test (decide (t13 < t12))
 (.test (decide ((0 ≤ t13) ∧ (t13 < ((List.length t11) : Int))))
 (.sub (t11[(Int.toNat t13)]?) fun z0 =>
 (.test (decide ((0 ≤ z0.1) ∧ (z0.1 < ((List.length out) : Int))))
 (.sub (out[(0 + (Int.toNat z0.1))]?) fun z1 =>
 (.test (decide ((0 ≤ z0.1) ∧ (z0.1 < ((List.length out) : Int))))
 (.sub (out[(0 + (Int.toNat z0.1))]?) fun z2 =>
 (.test (decide ((0 ≤ z0.2) ∧ (z0.2 < ((List.length out) : Int))))
 (.sub ((List.set out (0 + (Int.toNat z0.1)) (w64 (z1 + 1)))[(0 + (Int.toNat z0.2))]?) fun z3 =>
 (.test (decide ((0 ≤ z0.2) ∧ (z0.2 < ((List.length out) : Int))))
 (.sub ((List.set out (0 + (Int.toNat z0.1)) (w64 (z1 + 1)))[(0 + (Int.toNat z0.2))]?) fun z4 =>
 (.test (decide ((0 = 0) ∧ ((List.length out) = (List.length (List.set (List.set out (0 + (Int.toNat z0.1)) (w64 (z1 + 1))) (0 + (Int.toNat z0.2)) (w64 (z3 + 1)))))))
 (.ret (Sum.inl (((), (t11, (t12, (w64 (t13 + 1))))), (List.set (List.set out (0 + (Int.toNat z0.1)) (w64 (z1 + 1))) (0 + (Int.toNat z0.2)) (w64 (z3 + 1))))))
 .fail))
 .fail))
 .fail))
 .fail))
 .fail))
 .fail)
 (.test (decide ((0 = 0) ∧ ((List.length out) = (List.length out))))
 (.ret (Sum.inr ((), out)))
 .fail))
noncomputable def F85_L3 (v : ((Unit × List ((Int × Int)) × Int × Int) × List (Int))) : Option (Unit × List (Int)) := loopO (fun v => (F85_L3_step v).run) v

def F85_fo : List FO := [⟨[(.one (.rw 0 0))], [(.row 0 (.int .i64))]⟩]
noncomputable def F85_t : (Int × List ((Int × Int))) → T (Unit × List (Int)) := fun (n, ds) =>
 (.test true
 (.sub (F38 ((win (List.set (List.replicate 1 (0 : Int)) 0 (1 : Int)) 0 1), n)) fun z0 =>
 (.test (decide ((0 = 0) ∧ ((List.length z0.2) = (List.length z0.2))))
 (.sub (F85_L3 (((), (ds, (((List.length ds) : Int), (0 : Int)))), z0.2)) fun z1 =>
 (.test (decide ((0 = 0) ∧ ((List.length z1.2) = (List.length z1.2))))
 (.ret ((), z1.2))
 .fail))
 .fail))
 .fail)
noncomputable def F85 (v : (Int × List ((Int × Int)))) : Option (Unit × List (Int)) := (F85_t v).run
noncomputable def F85_E : TEnv := (E0.add1 n_F38 F38_sh F38_fo F38)
theorem F85_Eok : (F85_E).OK := (E0ok.add1 F38_ok)
noncomputable def F85_told : Nat → Option SealT := fun id => if id = 3 then some (LSh.told F85_L3_sh 0 (F85_L3_step)) else none
theorem F85_L3_ok : ToldOK Tryz.prog 0 (loopAt (bodyOf fn_F85) [0]) (LSh.told F85_L3_sh 0 (F85_L3_step)) :=
  loop_ok (E := F85_E) (F85_Eok) (told := F85_told) (l := F85_L3_sh) (step := F85_L3_step) (loopsOK_of (ls := []) (by kernel_rfl) trivial) (by kernel_rfl) (fun v => by kernel_rfl)
theorem F85_ok : FOK Tryz.prog n_F85 F85_sh F85_fo F85 :=
  fn_ok (E := F85_E) (F85_Eok) (told := F85_told) (fl := []) (c := bodyOf fn_F85) (s := F85_sh) (l := F85_fo) (tree := F85_t) fnat_F85 (by kernel_rfl) (by kernel_rfl) (by kernel_rfl) (loopsOK_of (ls := [loopAt (bodyOf fn_F85) [0]]) (by kernel_rfl) ⟨.inr ⟨_, by kernel_rfl, F85_L3_ok⟩, trivial⟩) (fun v => by kernel_rfl)

theorem F85_eq (n : Nat) (ds : List Dg) (hn : 1 ≤ n ∧ n ≤ 1000000) (hl : ds.length < 1000000) (h : ∀ d ∈ ds, 0 ≤ d.1 ∧ d.1 < d.2 ∧ d.2 < (n : Int)) : F85 ((n : Int), ds) = some ((), quid n ds) := by
  have hl' := loop_fold (step := fun v => (F85_L3_step v).run) (xs := ds) (fun k (s : List Int) => s.length = n ∧ ∀ p, p < n → 0 ≤ s.getD p 0 ∧ s.getD p 0 ≤ k + 1) (fun k s => (((), (ds, ((ds.length : Int), (k : Int)))), s)) bumpD (fun s => ((), s))
    (fun k s d hP hd => by
      obtain ⟨hs, hb⟩ := hP
      have hlt := getElem?_lt hd
      obtain ⟨q1, q2, q3⟩ := h d (List.mem_of_getElem? hd)
      refine ⟨?_, by rw [bumpD_length, hs], fun p hp => ?_⟩
      · have c0 : (k : Int) < (ds.length : Int) := by omega
        have c1 : (0 : Int) ≤ (k : Int) ∧ (k : Int) < (ds.length : Int) := by omega
        have w1 : w64 ((k : Int) + 1) = ((k + 1 : Nat) : Int) := by rw [w64_id (by omega) (by omega)]; omega
        have c2 : 0 ≤ d.1 ∧ d.1 < (s.length : Int) := by omega
        have c3 : 0 ≤ d.2 ∧ d.2 < (s.length : Int) := by omega
        have b1 := hb d.1.toNat (by omega)
        have b2 := hb d.2.toNat (by omega)
        have g1 : s[d.1.toNat]? = some (s.getD d.1.toNat 0) := by rw [List.getD_eq_getElem?_getD, List.getElem?_eq_getElem (by omega)]; rfl
        have g2 : s[d.2.toNat]? = some (s.getD d.2.toNat 0) := by rw [List.getD_eq_getElem?_getD, List.getElem?_eq_getElem (by omega)]; rfl
        have w2 : w64 (s.getD d.1.toNat 0 + 1) = s.getD d.1.toNat 0 + 1 := w64_id (by omega) (by omega)
        have w3 : w64 (s.getD d.2.toNat 0 + 1) = s.getD d.2.toNat 0 + 1 := w64_id (by omega) (by omega)
        have g3 : (s.set d.1.toNat (s.getD d.1.toNat 0 + 1))[d.2.toNat]? = some (s.getD d.2.toNat 0) := by rw [List.getElem?_set_ne (by omega)]; exact g2
        simp only [F85_L3_step, T.run, c0, c1, c2, c3, decide_true, if_true, and_self, Int.toNat_natCast, hd, Option.bind_some, Nat.zero_add, g1, w2, g3, w3, w1]
        simp [bumpD]
      · rw [bumpD_get q1 q2 (by omega) (by omega)]
        have := hb p hp
        have : 0 ≤ cntD d p ∧ cntD d p ≤ 1 := by unfold cntD; split <;> split <;> omega
        omega)
    (fun s hs => by simp [F85_L3_step, T.run])
    (List.replicate n 1) ⟨by simp, fun p hp => by rw [List.getD_eq_getElem?_getD, List.getElem?_replicate, if_pos hp]; simp⟩
  have hq : ds.foldl bumpD (List.replicate n 1) = quid n ds := by
    obtain ⟨f1, f2⟩ := bump_fold n ds (List.replicate n 1) (by simp) h
    refine List.ext_getElem (by rw [f1]; simp [quid]) fun p hp _ => ?_
    have := f2 p (by omega)
    rw [List.getD_eq_getElem?_getD, List.getElem?_eq_getElem hp, List.getD_eq_getElem?_getD, List.getElem?_replicate, if_pos (by omega)] at this
    simp only [Option.getD_some] at this
    rw [this]
    simp [quid]
  simp only [Int.natCast_zero] at hl'
  have hw : win (List.set (List.replicate 1 (0 : Int)) 0 (1 : Int)) 0 1 = [1] := rfl
  simp only [F85, F85_t, T.run, hw, F38_one n hn.1 hn.2, Option.bind_some, F85_L3]
  rw [hl'.1, hq]
  simp


def F50_sh : FSh := ⟨[(.one (.sl (.int .i64) false false))], []⟩

def F50_L5_sh : LSh := ⟨(fun ex => match ex with | .norm => [(0, none), (4, none), (5, none), (6, none), (24, none), (25, none)] | .exit i => if i = 0 then [(0, none), (4, none), (5, none), (6, none)] else [] | .ret => [(2, none), (3, none)]), [(0, (.one (.sl (.int .i64) false false))), (4, (.one (.rw 0 0))), (5, (.one (.rw 1 0))), (6, (.one (.rw 2 0))), (24, (.one (.si .i64))), (25, (.one (.si .i64)))], [(.row 0 (.int .i64)), (.row 0 (.int .i64)), (.row 0 (.pair (.int .i64) (.int .i64)))], [⟨(.exit 0), [(0, (.one (.sl (.int .i64) false false))), (4, (.one (.rw 0 0))), (5, (.one (.rw 1 0))), (6, (.one (.rw 2 0)))], [(.row 0 (.int .i64)), (.row 0 (.int .i64)), (.row 0 (.pair (.int .i64) (.int .i64)))]⟩], [], []⟩
noncomputable def F50_L5_step : ((List (Int) × Unit × Unit × Unit × Int × Int) × (List (Int) × List (Int) × List ((Int × Int)))) → T (((List (Int) × Unit × Unit × Unit × Int × Int) × (List (Int) × List (Int) × List ((Int × Int)))) ⊕ ((List (Int) × Unit × Unit × Unit) × (List (Int) × List (Int) × List ((Int × Int))))) := fun ((list, (), (), (), t24, t25), (left, names, out)) =>
 (.test (decide (t25 < t24))
 (.test (decide (1 ≤ (List.length (List.set (List.replicate 1 (0 : Int)) 0 t25))))
 (.test (decide ((0 + (List.length names)) ≤ (List.length names)))
 (.test (decide ((2 * (((List.length names) + (List.length (win (List.set (List.replicate 1 (0 : Int)) 0 t25) 0 1))) * 9)) ≤ 140737488355328))
 (.test (decide ((0 = 0) ∧ ((List.length left) = (List.length left))))
 (.test (decide ((0 = 0) ∧ (((List.length names) + (List.length (win (List.set (List.replicate 1 (0 : Int)) 0 t25) 0 1))) = (List.length ((win names 0 (List.length names)) ++ (win (List.set (List.replicate 1 (0 : Int)) 0 t25) 0 1))))))
 (.test (decide ((0 = 0) ∧ ((List.length out) = (List.length out))))
 (.ret (Sum.inl ((list, ((), ((), ((), (t24, (w64 (t25 + 1))))))), (left, (((win names 0 (List.length names)) ++ (win (List.set (List.replicate 1 (0 : Int)) 0 t25) 0 1)), out)))))
 .fail)
 .fail)
 .fail)
 .fail)
 .fail)
 .fail)
 (.test (decide ((0 = 0) ∧ ((List.length left) = (List.length left))))
 (.test (decide ((0 = 0) ∧ ((List.length names) = (List.length names))))
 (.test (decide ((0 = 0) ∧ ((List.length out) = (List.length out))))
 (.ret (Sum.inr ((list, ((), ((), ()))), (left, (names, out)))))
 .fail)
 .fail)
 .fail))
noncomputable def F50_L5 (v : ((List (Int) × Unit × Unit × Unit × Int × Int) × (List (Int) × List (Int) × List ((Int × Int))))) : Option ((List (Int) × Unit × Unit × Unit) × (List (Int) × List (Int) × List ((Int × Int)))) := loopO (fun v => (F50_L5_step v).run) v

def F50_L10_sh : LSh := ⟨(fun ex => match ex with | .norm => [(0, none), (4, none), (5, none), (6, none), (8, none)] | .exit i => if i = 2 then [(0, none), (4, none), (6, none)] else [] | .ret => [(2, none), (3, none)]), [(0, (.one (.sl (.int .i64) false false))), (4, (.one (.rw 0 0))), (5, (.one (.rw 1 0))), (6, (.one (.rw 2 0))), (8, (.one (.si .i64)))], [(.row 0 (.int .i64)), (.row 0 (.int .i64)), (.row 0 (.pair (.int .i64) (.int .i64)))], [⟨.ret, [(2, (.one (.rw 0 0))), (3, (.one .sb))], [(.row 0 (.pair (.int .i64) (.int .i64)))]⟩, ⟨(.exit 2), [(0, (.one (.sl (.int .i64) false false))), (4, (.one (.rw 0 0))), (6, (.one (.rw 1 0)))], [(.row 0 (.int .i64)), (.row 0 (.pair (.int .i64) (.int .i64)))]⟩], [], []⟩
noncomputable def F50_L10_step : ((List (Int) × Unit × Unit × Unit × Int) × (List (Int) × List (Int) × List ((Int × Int)))) → T (((List (Int) × Unit × Unit × Unit × Int) × (List (Int) × List (Int) × List ((Int × Int)))) ⊕ (((Unit × Bool) × List ((Int × Int))) ⊕ ((List (Int) × Unit × Unit) × (List (Int) × List ((Int × Int)))))) := fun ((list, (), (), (), n), (left, names, out)) =>
 (.test (decide (n > 3))
 (.test (decide ((0 + (List.length left)) ≤ (List.length left)))
 (.sub (F44 ((win left 0 (List.length left)), (1 : Int))) fun z0 =>
 (.test (decide (z0 < 0))
 (.test true
 (.ret (Sum.inr (Sum.inl (((), false), ([] : List (Int × Int))))))
 .fail)
 (.test (decide (n ≠ 0))
 (.test (decide (n ≠ 0))
 (.test (decide ((0 ≤ (Int.tmod (w64 ((w64 (z0 + n)) - 1)) n)) ∧ ((Int.tmod (w64 ((w64 (z0 + n)) - 1)) n) < ((List.length left) : Int))))
 (.sub (left[(0 + (Int.toNat (Int.tmod (w64 ((w64 (z0 + n)) - 1)) n)))]?) fun z1 =>
 (.test (decide ((0 ≤ (Int.tmod (w64 ((w64 (z0 + n)) - 1)) n)) ∧ ((Int.tmod (w64 ((w64 (z0 + n)) - 1)) n) < ((List.length left) : Int))))
 (.sub (left[(0 + (Int.toNat (Int.tmod (w64 ((w64 (z0 + n)) - 1)) n)))]?) fun z2 =>
 (.test (decide ((0 ≤ (Int.tmod (w64 (z0 + 1)) n)) ∧ ((Int.tmod (w64 (z0 + 1)) n) < ((List.length left) : Int))))
 (.sub ((List.set left (0 + (Int.toNat (Int.tmod (w64 ((w64 (z0 + n)) - 1)) n))) (w64 (z1 - 1)))[(0 + (Int.toNat (Int.tmod (w64 (z0 + 1)) n)))]?) fun z3 =>
 (.test (decide ((0 ≤ (Int.tmod (w64 (z0 + 1)) n)) ∧ ((Int.tmod (w64 (z0 + 1)) n) < ((List.length left) : Int))))
 (.sub ((List.set left (0 + (Int.toNat (Int.tmod (w64 ((w64 (z0 + n)) - 1)) n))) (w64 (z1 - 1)))[(0 + (Int.toNat (Int.tmod (w64 (z0 + 1)) n)))]?) fun z4 =>
 (.test (decide ((0 ≤ (Int.tmod (w64 ((w64 (z0 + n)) - 1)) n)) ∧ ((Int.tmod (w64 ((w64 (z0 + n)) - 1)) n) < ((List.length names) : Int))))
 (.sub (names[(0 + (Int.toNat (Int.tmod (w64 ((w64 (z0 + n)) - 1)) n)))]?) fun z5 =>
 (.test (decide ((0 ≤ (Int.tmod (w64 (z0 + 1)) n)) ∧ ((Int.tmod (w64 (z0 + 1)) n) < ((List.length names) : Int))))
 (.sub (names[(0 + (Int.toNat (Int.tmod (w64 (z0 + 1)) n)))]?) fun z6 =>
 (.test (decide (1 ≤ (List.length (List.set (List.replicate 1 ((0 : Int), (0 : Int))) 0 ((if (z6 < z5) then z6 else z5), (if (z6 > z5) then z6 else z5))))))
 (.test (decide ((0 + (List.length out)) ≤ (List.length out)))
 (.test (decide ((2 * (((List.length out) + (List.length (win (List.set (List.replicate 1 ((0 : Int), (0 : Int))) 0 ((if (z6 < z5) then z6 else z5), (if (z6 > z5) then z6 else z5))) 0 1))) * 17)) ≤ 140737488355328))
 (.test (decide ((0 = 0) ∧ ((List.length left) = (List.length (List.set (List.set left (0 + (Int.toNat (Int.tmod (w64 ((w64 (z0 + n)) - 1)) n))) (w64 (z1 - 1))) (0 + (Int.toNat (Int.tmod (w64 (z0 + 1)) n))) (w64 (z3 - 1)))))))
 (.sub (F36 (((), (z0, (w64 (z0 + 1)))), (List.set (List.set left (0 + (Int.toNat (Int.tmod (w64 ((w64 (z0 + n)) - 1)) n))) (w64 (z1 - 1))) (0 + (Int.toNat (Int.tmod (w64 (z0 + 1)) n))) (w64 (z3 - 1))))) fun z7 =>
 (.test (decide ((0 = 0) ∧ ((List.length names) = (List.length names))))
 (.sub (F36 (((), (z0, (w64 (z0 + 1)))), names)) fun z8 =>
 (.test (decide ((0 = 0) ∧ ((List.length z7.2) = (List.length z7.2))))
 (.test (decide ((0 = 0) ∧ ((List.length z8.2) = (List.length z8.2))))
 (.test (decide ((0 = 0) ∧ (((List.length out) + (List.length (win (List.set (List.replicate 1 ((0 : Int), (0 : Int))) 0 ((if (z6 < z5) then z6 else z5), (if (z6 > z5) then z6 else z5))) 0 1))) = (List.length ((win out 0 (List.length out)) ++ (win (List.set (List.replicate 1 ((0 : Int), (0 : Int))) 0 ((if (z6 < z5) then z6 else z5), (if (z6 > z5) then z6 else z5))) 0 1))))))
 (.ret (Sum.inl ((list, ((), ((), ((), (w64 (n - 1)))))), (z7.2, (z8.2, ((win out 0 (List.length out)) ++ (win (List.set (List.replicate 1 ((0 : Int), (0 : Int))) 0 ((if (z6 < z5) then z6 else z5), (if (z6 > z5) then z6 else z5))) 0 1)))))))
 .fail)
 .fail)
 .fail))
 .fail))
 .fail)
 .fail)
 .fail)
 .fail))
 .fail))
 .fail))
 .fail))
 .fail))
 .fail))
 .fail)
 .fail)
 .fail)))
 .fail)
 (.test (decide ((0 = 0) ∧ ((List.length left) = (List.length left))))
 (.test (decide ((0 = 0) ∧ ((List.length out) = (List.length out))))
 (.ret (Sum.inr (Sum.inr ((list, ((), ())), (left, out)))))
 .fail)
 .fail))
noncomputable def F50_L10 (v : ((List (Int) × Unit × Unit × Unit × Int) × (List (Int) × List (Int) × List ((Int × Int))))) : Option (((Unit × Bool) × List ((Int × Int))) ⊕ ((List (Int) × Unit × Unit) × (List (Int) × List ((Int × Int))))) := loopO (fun v => (F50_L10_step v).run) v

def F50_fo : List FO := [⟨[(.one (.rw 0 0)), (.one .sb)], [(.row 0 (.pair (.int .i64) (.int .i64)))]⟩]
noncomputable def F50_t : List (Int) → T ((Unit × Bool) × List ((Int × Int))) := fun list =>
 (.sub (F79 ((List.length list) : Int)) fun z0 =>
 (.test (! z0)
 (.test true
 (.ret (((), false), ([] : List (Int × Int))))
 .fail)
 (.sub (F43 list) fun z1 =>
 (.test (decide ((0 = 0) ∧ ((List.length z1.2) = (List.length z1.2))))
 (.test (decide ((0 = 0) ∧ (0 = (List.length (List.replicate 0 (0 : Int))))))
 (.test (decide ((0 = 0) ∧ (0 = (List.length (List.replicate 0 ((0 : Int), (0 : Int)))))))
 (.sub (F50_L5 ((list, ((), ((), ((), (((List.length list) : Int), (0 : Int)))))), (z1.2, ((List.replicate 0 (0 : Int)), (List.replicate 0 ((0 : Int), (0 : Int))))))) fun z2 =>
 (.test (decide ((0 = 0) ∧ ((List.length z2.2.1) = (List.length z2.2.1))))
 (.test (decide ((0 = 0) ∧ ((List.length z2.2.2.1) = (List.length z2.2.2.1))))
 (.test (decide ((0 = 0) ∧ ((List.length z2.2.2.2) = (List.length z2.2.2.2))))
 (.sub (F50_L10 ((z2.1.1, ((), ((), ((), ((List.length z2.2.1) : Int))))), (z2.2.1, (z2.2.2.1, z2.2.2.2)))) fun z3 =>
 (.test (Sum.isLeft z3)
 (.sub (Sum.getLeft? z3) fun z4 =>
 (.test (decide ((0 = 0) ∧ ((List.length z4.2) = (List.length z4.2))))
 (.ret (((), z4.1.2), z4.2))
 .fail))
 (.sub (Sum.getRight? z3) fun z5 =>
 (.test (decide ((0 = 0) ∧ ((List.length z5.2.2) = (List.length z5.2.2))))
 (.sub (F6 (((), ()), z5.2.2)) fun z6 =>
 (.test (decide ((0 + (List.length z5.2.1)) ≤ (List.length z5.2.1)))
 (.test true
 (.sub (F45 ((win z5.2.1 0 (List.length z5.2.1)), (win (List.set (List.set (List.set (List.replicate 3 (0 : Int)) 0 (1 : Int)) 1 (1 : Int)) 2 (1 : Int)) 0 3))) fun z7 =>
 (.test (! z7)
 (.test true
 (.ret (((), false), ([] : List (Int × Int))))
 .fail)
 (.test (decide ((0 + (List.length z5.2.2)) ≤ (List.length z6.2)))
 (.sub (F37 (((List.length z5.1.1) : Int), (win z6.2 0 (List.length z5.2.2)))) fun z8 =>
 (.test (! z8)
 (.test true
 (.ret (((), false), ([] : List (Int × Int))))
 .fail)
 (.test (decide ((0 + (List.length z5.2.2)) ≤ (List.length z6.2)))
 (.sub (F85 (((List.length z5.1.1) : Int), (win z6.2 0 (List.length z5.2.2)))) fun z9 =>
 (.test (decide ((0 + (List.length z9.2)) ≤ (List.length z9.2)))
 (.sub (F45 ((win z9.2 0 (List.length z9.2)), z5.1.1)) fun z10 =>
 (.test (! z10)
 (.test true
 (.ret (((), false), ([] : List (Int × Int))))
 .fail)
 (.test (decide ((0 = 0) ∧ ((List.length z5.2.2) = (List.length z6.2))))
 (.ret (((), true), z6.2))
 .fail)))
 .fail))
 .fail)))
 .fail)))
 .fail)
 .fail))
 .fail))))
 .fail)
 .fail)
 .fail))
 .fail)
 .fail)
 .fail))))
noncomputable def F50 (v : List (Int)) : Option ((Unit × Bool) × List ((Int × Int))) := (F50_t v).run
noncomputable def F50_E : TEnv := ((((((((E0.add1 n_F79 F79_sh F79_fo F79).add1 n_F43 F43_sh F43_fo F43).add1 n_F44 F44_sh F44_fo F44).add1 n_F36 F36_sh F36_fo F36).add1 n_F17 F6_sh F6_fo F6).add1 n_F45 F45_sh F45_fo F45).add1 n_F37 F37_sh F37_fo F37).add1 n_F85 F85_sh F85_fo F85)
theorem F50_Eok : (F50_E).OK := ((((((((E0ok.add1 F79_ok).add1 F43_ok).add1 F44_ok).add1 F36_ok).add1 F6_ok).add1 F45_ok).add1 F37_ok).add1 F85_ok)
noncomputable def F50_told : Nat → Option SealT := fun id => if id = 5 then some (LSh.told F50_L5_sh 0 (F50_L5_step)) else if id = 10 then some (LSh.told F50_L10_sh 0 (F50_L10_step)) else none
theorem F50_L5_ok : ToldOK Tryz.prog 0 (loopAt (bodyOf fn_F50) [0]) (LSh.told F50_L5_sh 0 (F50_L5_step)) :=
  loop_ok (E := F50_E) (F50_Eok) (told := F50_told) (l := F50_L5_sh) (step := F50_L5_step) (loopsOK_of (ls := []) (by kernel_rfl) trivial) (by kernel_rfl) (fun v => by kernel_rfl)
theorem F50_L10_ok : ToldOK Tryz.prog 0 (loopAt (bodyOf fn_F50) [1]) (LSh.told F50_L10_sh 0 (F50_L10_step)) :=
  loop_ok (E := F50_E) (F50_Eok) (told := F50_told) (l := F50_L10_sh) (step := F50_L10_step) (loopsOK_of (ls := []) (by kernel_rfl) trivial) (by kernel_rfl) (fun v => by kernel_rfl)
theorem F50_ok : FOK Tryz.prog n_F50 F50_sh F50_fo F50 :=
  fn_ok (E := F50_E) (F50_Eok) (told := F50_told) (fl := []) (c := bodyOf fn_F50) (s := F50_sh) (l := F50_fo) (tree := F50_t) fnat_F50 (by kernel_rfl) (by kernel_rfl) (by kernel_rfl) (loopsOK_of (ls := [loopAt (bodyOf fn_F50) [0], loopAt (bodyOf fn_F50) [1]]) (by kernel_rfl) ⟨.inr ⟨_, by kernel_rfl, F50_L5_ok⟩, ⟨.inr ⟨_, by kernel_rfl, F50_L10_ok⟩, trivial⟩⟩) (fun v => by kernel_rfl)

theorem F50_names (l left : List Int) (out : List Dg) (hl : l.length < 1000000) : F50_L5 ((l, ((), ((), ((), ((l.length : Int), (0 : Int)))))), (left, ([], out))) = some ((l, ((), ((), ()))), (left, (nameL l.length, out))) := by
  have key : ∀ m k, k + m = l.length → F50_L5 ((l, ((), ((), ((), ((l.length : Int), (k : Int)))))), (left, (nameL k, out))) = some ((l, ((), ((), ()))), (left, (nameL l.length, out))) := by
    intro m
    induction m with
    | zero =>
      intro k hk
      have : k = l.length := by omega
      subst this
      simp only [F50_L5]
      exact loopO_done (by simp [F50_L5_step, T.run])
    | succ m ih =>
      intro k hk
      have ih := ih (k + 1) (by omega)
      simp only [F50_L5] at ih ⊢
      rw [← ih]
      refine loopO_next ?_
      have c0 : (k : Int) < (l.length : Int) := by omega
      have w1 : w64 ((k : Int) + 1) = ((k + 1 : Nat) : Int) := by rw [w64_id (by omega) (by omega)]; omega
      have hw : win (nameL k) 0 k = nameL k := by have := win_all (nameL k); rwa [nameL_length] at this
      have c1 : 2 * ((k + 1) * 9) ≤ 140737488355328 := by omega
      have hs : nameL k ++ [(k : Int)] = nameL (k + 1) := (nameL_succ k).symm
      simp only [F50_L5_step, T.run, c0, decide_true, if_true, win_one, nameL_length, hw, w1, List.length_cons, List.length_nil, c1, hs, Nat.zero_add]
      simp [c1]
  simpa [nameL] using key l.length 0 (by omega)
theorem F50_cut (list left names : List Int) (out : List Dg) (k i : Nat) (hk : k < 100000) (hl : left.length = k + 4) (hn : names.length = k + 4) (ho : out.length < 100000) (he : ear left = some i) :
    (F50_L10_step ((list, ((), ((), ((), (left.length : Int))))), (left, (names, out)))).run = some (.inl ((list, ((), ((), ((), ((k + 3 : Nat) : Int))))), (cutL left i, (names.eraseIdx i, out ++ [cutD names i])))) := by
  obtain ⟨hi, _⟩ := ear_lt he
  obtain ⟨n1, n2, n3, n4, n5, n6⟩ := nb_facts (by omega : 3 ≤ left.length) hi
  obtain ⟨t1, t2⟩ := nb_tmod (by omega : 3 ≤ left.length) (by omega) hi
  have hidx := F44_eq left 1 (by omega)
  have hii : idxI (fun x => (1 : Int) == x) left = (i : Int) := by unfold idxI; unfold ear at he; rw [he]
  have c0 : (left.length : Int) > 3 := by omega
  have c1 : ¬ ((i : Int) < 0) := by omega
  have c2 : (left.length : Int) ≠ 0 := by omega
  have c3 : (0 : Int) ≤ (nbB left.length i : Int) ∧ (nbB left.length i : Int) < (left.length : Int) := by omega
  have c4 : (0 : Int) ≤ (nbC left.length i : Int) ∧ (nbC left.length i : Int) < (left.length : Int) := by omega
  have c5 : (0 : Int) ≤ (nbB left.length i : Int) ∧ (nbB left.length i : Int) < (names.length : Int) := by omega
  have c6 : (0 : Int) ≤ (nbC left.length i : Int) ∧ (nbC left.length i : Int) < (names.length : Int) := by omega
  have g1 := set_getD n1
  have g2 : (left.set (nbB left.length i) (w64 (left.getD (nbB left.length i) 0 - 1)))[nbC left.length i]? = some ((decAt left (nbB left.length i)).getD (nbC left.length i) 0) := set_getD (by simpa using n2)
  have g3 := set_getD (l := names) (p := nbB left.length i) (by omega)
  have g4 := set_getD (l := names) (p := nbC left.length i) (by omega)
  have w1 : w64 ((i : Int) + 1) = ((i + 1 : Nat) : Int) := by rw [w64_id (by omega) (by omega)]; omega
  rw [w1] at t2
  have w2 : w64 ((left.length : Int) - 1) = ((k + 3 : Nat) : Int) := by rw [w64_id (by omega) (by omega)]; omega
  have hD : ∀ a b : Int, ((if b < a then b else a), (if b > a then b else a)) = (min a b, max a b) := by
    intro a b
    rw [Prod.mk.injEq]
    constructor <;> split <;> omega
  have hD' : (min (names.getD (nbB left.length i) 0) (names.getD (nbC left.length i) 0), max (names.getD (nbB left.length i) 0) (names.getD (nbC left.length i) 0)) = cutD names i := by unfold cutD; rw [hl, hn]
  have hd1 : F36 (((), ((i : Int), ((i + 1 : Nat) : Int))), decAt (decAt left (nbB left.length i)) (nbC left.length i)) = some ((), cutL left i) := by
    unfold F36
    rw [if_pos ⟨by simp only []; omega, by simp only []; omega, by simp only [decAt_length]; omega, by simp only [decAt_length]; omega⟩]
    simp only [Int.toNat_natCast, take_drop_erase]
    rfl
  have hd2 : F36 (((), ((i : Int), ((i + 1 : Nat) : Int))), names) = some ((), names.eraseIdx i) := by
    unfold F36
    rw [if_pos ⟨by simp only []; omega, by simp only []; omega, by simp only []; omega, by simp only []; omega⟩]
    simp only [Int.toNat_natCast, take_drop_erase]
  have c7 : 2 * ((out.length + 1) * 17) ≤ 140737488355328 := by omega
  have l1 : left.length = (decAt (decAt left (nbB left.length i)) (nbC left.length i)).length := by rw [decAt_length, decAt_length]
  have e1 : left.set (nbB left.length i) (w64 (left.getD (nbB left.length i) 0 - 1)) = decAt left (nbB left.length i) := rfl
  have e2 : (decAt left (nbB left.length i)).set (nbC left.length i) (w64 ((decAt left (nbB left.length i)).getD (nbC left.length i) 0 - 1)) = decAt (decAt left (nbB left.length i)) (nbC left.length i) := rfl
  rw [e1] at g2
  simp only [F50_L10_step, T.run, c0, decide_true, if_true, Nat.zero_add, Nat.le_refl, win_all, hidx, hii, Option.bind_some, c1, decide_false, Bool.false_eq_true, if_false, c2, ne_eq, not_false_eq_true, t1, t2, c3, c4, c5, c6, and_self, Int.toNat_natCast, g1, e1, g2, g3, g4, e2, hD, hD', win_one, w1, w2, hd1, hd2, ← l1]
  simp [c7]
theorem F50_cuts (list : List Int) : ∀ (k : Nat) (left names : List Int) (out : List Dg), k < 1000 → left.length = k + 3 → names.length = k + 3 → out.length + k < 10000 →
    F50_L10 ((list, ((), ((), ((), (left.length : Int))))), (left, (names, out))) = some (match triW k left names with
      | none => .inl (((), false), [])
      | some r => .inr ((list, ((), ())), (r.1, out ++ r.2)))
  | 0, left, names, out, hk, hl, hn, ho => by
    simp only [F50_L10, triW]
    refine loopO_done ?_
    have c0 : ¬ ((left.length : Int) > 3) := by omega
    simp [F50_L10_step, T.run, c0]
  | k + 1, left, names, out, hk, hl, hn, ho => by
    cases he : ear left with
    | none =>
      have hidx := F44_eq left 1 (by omega)
      have hii : idxI (fun x => (1 : Int) == x) left = -1 := by unfold idxI; unfold ear at he; rw [he]
      have c0 : (left.length : Int) > 3 := by omega
      simp only [F50_L10, triW, he]
      refine loopO_done ?_
      simp only [F50_L10_step, T.run, c0, decide_true, if_true, Nat.zero_add, Nat.le_refl, win_all, hidx, hii, Option.bind_some]
      simp
    | some i =>
      have st := F50_cut list left names out k i (by omega) (by omega) (by omega) (by omega) he
      have hlc := cutL_length (ear_lt he).1
      have ih := F50_cuts list k (cutL left i) (names.eraseIdx i) (out ++ [cutD names i]) (by omega) (by omega) (by rw [List.length_eraseIdx, if_pos (by have := (ear_lt he).1; omega)]; omega) (by simp; omega)
      rw [show (cutL left i).length = k + 3 by omega] at ih
      simp only [F50_L10, triW, he] at ih ⊢
      rw [loopO_next st, ih]
      cases triW k (cutL left i) (names.eraseIdx i) with
      | none => rfl
      | some r => simp
theorem F50_eq (l : List Int) (hl : l.length < 4611686018427387904) : F50 l = some (match trOf l with | some ds => (((), true), ds) | none => (((), false), [])) := by
  simp only [F50, F50_t, T.run, F79, F79_t, F98_eq, Option.bind_some]
  cases hn : inB 3 12 (l.length : Int) with
  | false => simp [trOf, hn]
  | true =>
    have hn' := inB_iff.1 hn
    have hc : F43 l = some ((), l) := by
      unfold F43
      rw [if_pos]
      exact ⟨by unfold maxLen; omega, by omega⟩
    have h5 := F50_names l l [] (by omega)
    have h10 := F50_cuts l (l.length - 3) l (nameL l.length) [] (by omega) (by omega) (by rw [nameL_length]; omega) (by simp; omega)
    have htri := tri_W (l.length - 3) l (nameL l.length)
    simp only [Bool.not_true, Bool.false_eq_true, if_false, hc, Option.bind_some, List.replicate_zero, List.length_nil, true_and, decide_true, if_true, h5, h10]
    unfold trOf
    rw [hn, htri]
    cases hW : triW (l.length - 3) l (nameL l.length) with
    | none => simp
    | some r =>
      obtain ⟨l3, ds⟩ := r
      obtain ⟨g1, g2⟩ := triW_len _ _ _ _ (by omega) hW
      simp only at g1 g2
      have hs := F6_eq ds (by omega)
      have hls := sortD_length ds
      have hw3 : win (List.set (List.set (List.set (List.replicate 3 (0 : Int)) 0 (1 : Int)) 1 (1 : Int)) 2 (1 : Int)) 0 3 = [1, 1, 1] := rfl
      have heq := F45_eq l3 [1, 1, 1] (by omega)
      have hws : win (sortD ds) 0 ds.length = sortD ds := by rw [← hls]; exact win_all _
      simp only [if_true, Sum.isLeft, Sum.getRight?, Option.bind_some, Bool.false_eq_true, if_false, List.nil_append, hs, Nat.zero_add, Nat.le_refl, decide_true, win_all, hw3, heq, hls, hws, true_and]
      by_cases h3 : l3 = [1, 1, 1]
      · have hT : tri (l.length - 3) l (nameL l.length) = some ds := by rw [htri, hW]; simp [h3]
        obtain ⟨q1, q2⟩ := tri_good _ _ _ _ (nameL_sorted _) (by omega) (by rw [nameL_length]; omega) hT
        have hti := good_isTri (n := l.length) ⟨by omega, by omega⟩ (fun m hm => nameL_mem hm) q2 (by omega)
        have hit := F37_eq (l.length : Int) (sortD ds) (by omega)
        rw [hti] at hit
        have hqd := F85_eq l.length (sortD ds) ⟨by omega, by omega⟩ (by omega) (fun d hd => by
          obtain ⟨a1, a2, a3, _⟩ := q2.1 d ((sortD_perm ds).mem_iff.1 hd)
          have := nameL_mem a1
          have := nameL_mem a2
          omega)
        have hqs : quid l.length (sortD ds) = quid l.length ds := by
          unfold quid
          exact List.map_congr_left fun p _ => by rw [cnt_perm (sortD_perm ds)]
        have hqe := F45_eq (quid l.length ds) l (by simp [quid]; omega)
        simp only [h3, decide_true, Bool.not_true, Bool.false_eq_true, if_false, hit, Option.bind_some, hqd, hqs, win_all, hqe, Nat.le_refl, if_true]
        by_cases hq : quid l.length ds = l <;> simp [hq]
      · simp [h3]


def F70_sh : FSh := ⟨[(.one (.sl (.int .i64) false false))], []⟩

def F70_fo : List FO := [⟨[(.one .sb)], []⟩]
noncomputable def F70_t : List (Int) → T Bool := fun quiddity =>
 (.sub (F50 quiddity) fun z0 =>
 (.ret z0.1.2))
noncomputable def F70 (v : List (Int)) : Option Bool := (F70_t v).run
noncomputable def F70_E : TEnv := (E0.add1 n_F50 F50_sh F50_fo F50)
theorem F70_Eok : (F70_E).OK := (E0ok.add1 F50_ok)
noncomputable def F70_told : Nat → Option SealT := fun id => none
theorem F70_ok : FOK Tryz.prog n_F70 F70_sh F70_fo F70 :=
  fn_ok (E := F70_E) (F70_Eok) (told := F70_told) (fl := []) (c := bodyOf fn_F70) (s := F70_sh) (l := F70_fo) (tree := F70_t) fnat_F70 (by kernel_rfl) (by kernel_rfl) (by kernel_rfl) (loopsOK_of (ls := []) (by kernel_rfl) trivial) (fun v => by kernel_rfl)

theorem F70_eq (l : List Int) (hl : l.length < 4611686018427387904) : F70 l = some (trOf l).isSome := by
  simp only [F70, F70_t, T.run, F50_eq l hl, Option.bind_some]
  cases trOf l <;> rfl


def F39_sh : FSh := ⟨[.one (.rw 0 0), .one (.si .i64), .one (.rw 1 0)], [.row 0 (.int .i64), .row 0 (.int .i64)]⟩
def F39_fo : List FO := [⟨[.one (.rw 0 1)], [.row 1 (.int .i64), .row 0 (.int .i64)]⟩]
def F39 (v : (Unit × Int × Unit) × (List Int × List Int)) : Option (Unit × (List Int × List Int)) := match v.2.2 with
  | [x] => if 0 ≤ v.1.2.1 ∧ v.1.2.1 ≤ (v.2.1.length : Int) ∧ v.2.1.length ≤ 1000000000000 then some ((), v.2.1.take v.1.2.1.toNat ++ [x] ++ v.2.1.drop v.1.2.1.toNat, [x]) else none
  | _ => none
def F39_ren : Shelf.Ren := ⟨fun k => if k = 21 then n_F39 else if k = 27 then 231 else if k = 28 then 232 else if k = 35 then 255 else 117, fun t => if t = 0 then 0 else if t = 4 then 4 else if t = 22 then 24 else 3, fun x => x⟩
theorem F39_lay : Lays2.n21 Tryz.prog F39_ren :=
  { mixed := by kernel_rfl, f21 := by kernel_rfl, f27 := by kernel_rfl, f28 := by kernel_rfl, f35 := by kernel_rfl, f39 := by kernel_rfl, t0 := by kernel_rfl, a0 := fun w => by kernel_rfl, z0 := fun w => by kernel_rfl, v0 := fun w => by kernel_rfl, t3 := by kernel_rfl, a3 := fun w => by kernel_rfl, z3 := fun w => by kernel_rfl, v3 := fun w => by kernel_rfl, t4 := by kernel_rfl, a4 := fun w => by kernel_rfl, z4 := fun w => by kernel_rfl, v4 := fun w => by kernel_rfl, t22 := by kernel_rfl, a22 := fun w => by kernel_rfl, z22 := fun w => by kernel_rfl, v22 := fun w => by kernel_rfl, i3 := by kernel_rfl }
theorem F39_ok : FOK Tryz.prog n_F39 F39_sh F39_fo F39 :=
  insert_ok ⟨_, fnat_F39, by kernel_rfl, by kernel_rfl⟩ (ρr := F39_ren) rfl F39_lay

def F89_sh : FSh := ⟨[(.one (.sl (.int .i64) false false)), (.one (.si .i64))], []⟩

def F89_fo : List FO := [⟨[(.one (.rw 0 0)), (.one .sb)], [(.row 0 (.int .i64))]⟩]
noncomputable def F89_t : (List (Int) × Int) → T ((Unit × Bool) × List (Int)) := fun (quiddity, at') =>
 (.sub (F70 quiddity) fun z0 =>
 (.test (! z0)
 (.test true
 (.ret (((), false), ([] : List (Int))))
 .fail)
 (.sub (F98 (at', ((1 : Int), ((List.length quiddity) : Int)))) fun z1 =>
 (.test (! z1)
 (.test true
 (.ret (((), false), ([] : List (Int))))
 .fail)
 (.test (((List.length quiddity) : Int) == 12)
 (.test true
 (.ret (((), false), ([] : List (Int))))
 .fail)
 (.sub (F43 quiddity) fun z2 =>
 (.test (decide ((0 = 0) ∧ ((List.length z2.2) = (List.length z2.2))))
 (.test (decide ((0 = 0) ∧ (1 = (List.length (List.set (List.replicate 1 (0 : Int)) 0 (1 : Int))))))
 (.sub (F39 (((), (at', ())), (z2.2, (List.set (List.replicate 1 (0 : Int)) 0 (1 : Int))))) fun z3 =>
 (.test (decide ((0 ≤ (w64 (at' - 1))) ∧ ((w64 (at' - 1)) < ((List.length z3.2.1) : Int))))
 (.sub (z3.2.1[(0 + (Int.toNat (w64 (at' - 1))))]?) fun z4 =>
 (.test (decide ((0 ≤ (w64 (at' - 1))) ∧ ((w64 (at' - 1)) < ((List.length z3.2.1) : Int))))
 (.sub (z3.2.1[(0 + (Int.toNat (w64 (at' - 1))))]?) fun z5 =>
 (.test (decide ((w64 (((List.length quiddity) : Int) + 1)) ≠ 0))
 (.test (decide ((0 ≤ (Int.tmod (w64 (at' + 1)) (w64 (((List.length quiddity) : Int) + 1)))) ∧ ((Int.tmod (w64 (at' + 1)) (w64 (((List.length quiddity) : Int) + 1))) < ((List.length z3.2.1) : Int))))
 (.sub ((List.set z3.2.1 (0 + (Int.toNat (w64 (at' - 1)))) (w64 (z4 + 1)))[(0 + (Int.toNat (Int.tmod (w64 (at' + 1)) (w64 (((List.length quiddity) : Int) + 1)))))]?) fun z6 =>
 (.test (decide ((0 ≤ (Int.tmod (w64 (at' + 1)) (w64 (((List.length quiddity) : Int) + 1)))) ∧ ((Int.tmod (w64 (at' + 1)) (w64 (((List.length quiddity) : Int) + 1))) < ((List.length z3.2.1) : Int))))
 (.sub ((List.set z3.2.1 (0 + (Int.toNat (w64 (at' - 1)))) (w64 (z4 + 1)))[(0 + (Int.toNat (Int.tmod (w64 (at' + 1)) (w64 (((List.length quiddity) : Int) + 1)))))]?) fun z7 =>
 (.test (decide ((0 = 0) ∧ ((List.length z3.2.1) = (List.length (List.set (List.set z3.2.1 (0 + (Int.toNat (w64 (at' - 1)))) (w64 (z4 + 1))) (0 + (Int.toNat (Int.tmod (w64 (at' + 1)) (w64 (((List.length quiddity) : Int) + 1))))) (w64 (z6 + 1)))))))
 (.ret (((), true), (List.set (List.set z3.2.1 (0 + (Int.toNat (w64 (at' - 1)))) (w64 (z4 + 1))) (0 + (Int.toNat (Int.tmod (w64 (at' + 1)) (w64 (((List.length quiddity) : Int) + 1))))) (w64 (z6 + 1)))))
 .fail))
 .fail))
 .fail)
 .fail))
 .fail))
 .fail))
 .fail)
 .fail)))))))
noncomputable def F89 (v : (List (Int) × Int)) : Option ((Unit × Bool) × List (Int)) := (F89_t v).run
noncomputable def F89_E : TEnv := ((((E0.add1 n_F70 F70_sh F70_fo F70).add1 n_F98 F98_sh F98_fo F98).add1 n_F43 F43_sh F43_fo F43).add1 n_F39 F39_sh F39_fo F39)
theorem F89_Eok : (F89_E).OK := ((((E0ok.add1 F70_ok).add1 F98_ok).add1 F43_ok).add1 F39_ok)
noncomputable def F89_told : Nat → Option SealT := fun id => none
theorem F89_ok : FOK Tryz.prog n_F89 F89_sh F89_fo F89 :=
  fn_ok (E := F89_E) (F89_Eok) (told := F89_told) (fl := []) (c := bodyOf fn_F89) (s := F89_sh) (l := F89_fo) (tree := F89_t) fnat_F89 (by kernel_rfl) (by kernel_rfl) (by kernel_rfl) (loopsOK_of (ls := []) (by kernel_rfl) trivial) (fun v => by kernel_rfl)

theorem F89_eq (q : List Int) (at' : Nat) (hq : (trOf q).isSome = true) (hl : 3 ≤ q.length) (hl2 : q.length ≤ 11) (hv : ∀ v ∈ q, 1 ≤ v ∧ v ≤ 12) (h1 : 1 ≤ at') (h2 : at' ≤ q.length) :
    F89 (q, (at' : Int)) = some (((), true), glueL q at') := by
  obtain ⟨f1, f2, f3, f4⟩ := glueL_facts h1 h2 hl hv
  have hb : inB 1 (q.length : Int) (at' : Int) = true := inB_iff.2 (by omega)
  have hc : F43 q = some ((), q) := by
    unfold F43
    rw [if_pos]
    exact ⟨by unfold maxLen; omega, by omega⟩
  have h12 : ((q.length : Int) == 12) = false := by simp; omega
  have hins : F39 (((), ((at' : Int), ())), (q, [1])) = some ((), (q.take at' ++ 1 :: q.drop at', [1])) := by
    simp only [F39]
    rw [if_pos ⟨by omega, by omega, by omega⟩, Int.toNat_natCast]
    simp
  have hset : List.set (List.replicate 1 (0 : Int)) 0 (1 : Int) = [1] := rfl
  have w1 : w64 ((at' : Int) - 1) = ((at' - 1 : Nat) : Int) := by rw [w64_id (by omega) (by omega)]; omega
  have w2 : w64 ((at' : Int) + 1) = ((at' + 1 : Nat) : Int) := by rw [w64_id (by omega) (by omega)]; omega
  have w3 : w64 ((q.length : Int) + 1) = ((q.length + 1 : Nat) : Int) := by rw [w64_id (by omega) (by omega)]; omega
  have w4 : Int.tmod ((at' + 1 : Nat) : Int) ((q.length + 1 : Nat) : Int) = (((at' + 1) % (q.length + 1) : Nat) : Int) := by
    rw [Int.tmod_eq_emod_of_nonneg (by omega)]; exact (Int.natCast_emod _ _).symm
  generalize hm : q.take at' ++ 1 :: q.drop at' = m at *
  generalize hc2 : (at' + 1) % (q.length + 1) = c at *
  have b1 := f2 (at' - 1) (by omega)
  have b2 := f2 c f3
  have g1 := set_getD (l := m) (p := at' - 1) (by omega)
  have e2 : (m.set (at' - 1) (m.getD (at' - 1) 0 + 1)).getD c 0 = m.getD c 0 := by
    simp only [List.getD_eq_getElem?_getD]
    rw [List.getElem?_set_ne (Ne.symm f4)]
  have g2 := set_getD (l := m.set (at' - 1) (m.getD (at' - 1) 0 + 1)) (p := c) (by simp; omega)
  have w5 : w64 (m.getD (at' - 1) 0 + 1) = m.getD (at' - 1) 0 + 1 := w64_id (by omega) (by omega)
  have w6 : w64 ((m.set (at' - 1) (m.getD (at' - 1) 0 + 1)).getD c 0 + 1) = (m.set (at' - 1) (m.getD (at' - 1) 0 + 1)).getD c 0 + 1 := by rw [e2]; exact w64_id (by omega) (by omega)
  have c1 : (0 : Int) ≤ ((at' - 1 : Nat) : Int) ∧ ((at' - 1 : Nat) : Int) < (m.length : Int) := by omega
  have c2 : (0 : Int) ≤ (c : Int) ∧ (c : Int) < (m.length : Int) := by omega
  have c3 : ((q.length + 1 : Nat) : Int) ≠ 0 := by omega
  have hg : glueL q at' = (m.set (at' - 1) (m.getD (at' - 1) 0 + 1)).set c ((m.set (at' - 1) (m.getD (at' - 1) 0 + 1)).getD c 0 + 1) := by
    unfold glueL
    rw [hm, hc2]
  simp only [F89, F89_t, T.run, F70_eq q (by omega), hq, Option.bind_some, Bool.not_true, Bool.false_eq_true, if_false, F98_eq, hb, h12, hc, hset, hins, w1, w2, w3, w4, c1, c2, c3, ne_eq, not_false_eq_true, decide_true, if_true, and_self, Int.toNat_natCast, Nat.zero_add, g1, w5, g2, w6, List.length_set, List.length_cons, List.length_nil]
  rw [hg]


def F71_sh : FSh := ⟨[(.one (.si .i64)), (.one (.si .i64)), (.one (.si .i64))], []⟩

def F71_L5_sh : LSh := ⟨(fun ex => match ex with | .norm => [(0, none), (1, none), (6, none), (9, none), (10, none)] | .exit i => if i = 0 then [(1, none), (6, none), (9, none), (10, none)] else [] | .ret => [(6, none), (7, none)]), [(0, (.one (.si .i64))), (1, (.one (.si .i64))), (6, (.one (.pf 0 0 0))), (9, (.one (.rw 1 0))), (10, (.clo n_F53 [(.one (.pf 2 0 0))]))], [(.rcd 0 [(.nl true true)]), (.row 0 (.int .i64)), (.rcd 0 [(.si .i64)])], [⟨(.exit 0), [(1, (.one (.si .i64))), (6, (.one (.pf 0 0 0))), (9, (.one (.rw 1 0))), (10, (.clo n_F53 [(.one (.pf 2 0 0))]))], [(.rcd 0 [(.nl true true)]), (.row 0 (.int .i64)), (.rcd 0 [(.si .i64)])]⟩], [], []⟩
noncomputable def F71_L5_step : ((Int × Int × Unit × Unit × Unit) × (Unit × List (Int) × Int)) → T (((Int × Int × Unit × Unit × Unit) × (Unit × List (Int) × Int)) ⊕ ((Int × Unit × Unit × Unit) × (Unit × List (Int) × Int))) := fun ((n, gaps, (), (), ()), ((), list, r2_0)) =>
 (.test (decide (((List.length list) : Int) < n))
 (.sub (F53 ((((List.length list) : Int), ()), r2_0)) fun z0 =>
 (.test (decide ((0 + (List.length list)) ≤ (List.length list)))
 (.sub (F89 ((win list 0 (List.length list)), (w64 (z0.1 + 1)))) fun z1 =>
 (.test (decide ((0 = 0) ∧ ((List.length z1.2) = (List.length z1.2))))
 (.ret (Sum.inl ((n, (gaps, ((), ((), ())))), ((), (z1.2, z0.2)))))
 .fail))
 .fail))
 (.test (decide ((0 = 0) ∧ ((List.length list) = (List.length list))))
 (.ret (Sum.inr ((gaps, ((), ((), ()))), ((), (list, r2_0)))))
 .fail))
noncomputable def F71_L5 (v : ((Int × Int × Unit × Unit × Unit) × (Unit × List (Int) × Int))) : Option ((Int × Unit × Unit × Unit) × (Unit × List (Int) × Int)) := loopO (fun v => (F71_L5_step v).run) v

def F71_L11_sh : LSh := ⟨(fun ex => match ex with | .norm => [(6, none), (9, none), (10, none), (11, none), (46, none), (47, none), (50, none), (51, none), (52, none)] | .exit i => if i = 4 then [(6, none), (9, none), (10, none), (11, none), (46, none), (47, none)] else if i = 3 then [(6, none), (9, none), (10, none), (46, none), (47, none)] else if i = 2 then [(6, none), (9, none)] else [] | .ret => [(6, none), (7, none)]), [(6, (.one (.pf 0 0 0))), (9, (.one (.rw 1 0))), (10, (.clo n_F53 [(.one (.pf 2 0 0))])), (11, (.one (.rw 3 0))), (46, (.one (.si .i64))), (47, (.one (.si .i64))), (50, (.one (.rw 1 0))), (51, (.one (.si .i64))), (52, (.one (.si .i64)))], [(.rcd 0 [(.nl true true)]), (.row 0 (.int .i64)), (.rcd 0 [(.si .i64)]), (.row 0 (.int .i64))], [⟨(.exit 4), [(6, (.one (.pf 0 0 0))), (9, (.one (.rw 1 0))), (10, (.clo n_F53 [(.one (.pf 2 0 0))])), (11, (.one (.rw 3 0))), (46, (.one (.si .i64))), (47, (.one (.si .i64)))], [(.rcd 0 [(.nl true true)]), (.row 0 (.int .i64)), (.rcd 0 [(.si .i64)]), (.row 0 (.int .i64))]⟩], [], []⟩
noncomputable def F71_L11_step : ((Unit × Unit × Unit × Unit × Int × Int × Unit × Int × Int) × (Unit × List (Int) × Int × List (Int))) → T (((Unit × Unit × Unit × Unit × Int × Int × Unit × Int × Int) × (Unit × List (Int) × Int × List (Int))) ⊕ ((Unit × Unit × Unit × Unit × Int × Int) × (Unit × List (Int) × Int × List (Int)))) := fun (((), (), (), (), t46, t47, (), t51, t52), ((), list, r2_0, places)) =>
 (.test (decide (t52 < t51))
 (.test (decide ((0 ≤ t52) ∧ (t52 < ((List.length list) : Int))))
 (.sub (list[(0 + (Int.toNat t52))]?) fun z0 =>
 (.test (decide (z0 > 0))
 (.test (decide (1 ≤ (List.length (List.set (List.replicate 1 (0 : Int)) 0 t52))))
 (.test (decide ((0 + (List.length places)) ≤ (List.length places)))
 (.test (decide ((2 * (((List.length places) + (List.length (win (List.set (List.replicate 1 (0 : Int)) 0 t52) 0 1))) * 9)) ≤ 140737488355328))
 (.test (decide ((0 = 0) ∧ ((List.length list) = (List.length list))))
 (.test (decide ((0 = 0) ∧ (((List.length places) + (List.length (win (List.set (List.replicate 1 (0 : Int)) 0 t52) 0 1))) = (List.length ((win places 0 (List.length places)) ++ (win (List.set (List.replicate 1 (0 : Int)) 0 t52) 0 1))))))
 (.test (decide ((0 = 0) ∧ ((List.length list) = (List.length list))))
 (.ret (Sum.inl (((), ((), ((), ((), (t46, (t47, ((), (t51, (w64 (t52 + 1)))))))))), ((), (list, (r2_0, ((win places 0 (List.length places)) ++ (win (List.set (List.replicate 1 (0 : Int)) 0 t52) 0 1))))))))
 .fail)
 .fail)
 .fail)
 .fail)
 .fail)
 .fail)
 (.test (decide ((0 = 0) ∧ ((List.length list) = (List.length list))))
 (.test (decide ((0 = 0) ∧ ((List.length places) = (List.length places))))
 (.test (decide ((0 = 0) ∧ ((List.length list) = (List.length list))))
 (.ret (Sum.inl (((), ((), ((), ((), (t46, (t47, ((), (t51, (w64 (t52 + 1)))))))))), ((), (list, (r2_0, places))))))
 .fail)
 .fail)
 .fail)))
 .fail)
 (.test (decide ((0 = 0) ∧ ((List.length list) = (List.length list))))
 (.test (decide ((0 = 0) ∧ ((List.length places) = (List.length places))))
 (.ret (Sum.inr (((), ((), ((), ((), (t46, t47))))), ((), (list, (r2_0, places))))))
 .fail)
 .fail))
noncomputable def F71_L11 (v : ((Unit × Unit × Unit × Unit × Int × Int × Unit × Int × Int) × (Unit × List (Int) × Int × List (Int)))) : Option ((Unit × Unit × Unit × Unit × Int × Int) × (Unit × List (Int) × Int × List (Int))) := loopO (fun v => (F71_L11_step v).run) v

def F71_L8_sh : LSh := ⟨(fun ex => match ex with | .norm => [(6, none), (9, none), (10, none), (46, none), (47, none)] | .exit i => if i = 2 then [(6, none), (9, none)] else [] | .ret => [(6, none), (7, none)]), [(6, (.one (.pf 0 0 0))), (9, (.one (.rw 1 0))), (10, (.clo n_F53 [(.one (.pf 2 0 0))])), (46, (.one (.si .i64))), (47, (.one (.si .i64)))], [(.rcd 0 [(.nl true true)]), (.row 0 (.int .i64)), (.rcd 0 [(.si .i64)])], [⟨(.exit 2), [(6, (.one (.pf 0 0 0))), (9, (.one (.rw 1 0)))], [(.rcd 0 [(.nl true true)]), (.row 0 (.int .i64))]⟩], [], []⟩
noncomputable def F71_L8_step : ((Unit × Unit × Unit × Int × Int) × (Unit × List (Int) × Int)) → T (((Unit × Unit × Unit × Int × Int) × (Unit × List (Int) × Int)) ⊕ ((Unit × Unit) × (Unit × List (Int)))) := fun (((), (), (), t46, t47), ((), list, r2_0)) =>
 (.test (decide (t47 < t46))
 (.test (decide ((0 = 0) ∧ ((List.length list) = (List.length list))))
 (.test (decide ((0 = 0) ∧ (0 = (List.length (List.replicate 0 (0 : Int))))))
 (.test (decide ((0 = 0) ∧ ((List.length list) = (List.length list))))
 (.sub (F71_L11 (((), ((), ((), ((), (t46, (t47, ((), (((List.length list) : Int), (0 : Int))))))))), ((), (list, (r2_0, (List.replicate 0 (0 : Int))))))) fun z0 =>
 (.sub (F53 ((((List.length z0.2.2.2.2) : Int), ()), z0.2.2.2.1)) fun z1 =>
 (.test (decide ((0 ≤ z1.1) ∧ (z1.1 < ((List.length z0.2.2.2.2) : Int))))
 (.sub (z0.2.2.2.2[(0 + (Int.toNat z1.1))]?) fun z2 =>
 (.test (decide ((0 ≤ z2) ∧ (z2 < ((List.length z0.2.2.1) : Int))))
 (.sub (z0.2.2.1[(0 + (Int.toNat z2))]?) fun z3 =>
 (.test (decide ((0 = 0) ∧ ((List.length z0.2.2.1) = (List.length (List.set z0.2.2.1 (0 + (Int.toNat z2)) (0 : Int))))))
 (.ret (Sum.inl (((), ((), ((), (z0.1.2.2.2.2.1, (w64 (z0.1.2.2.2.2.2 + 1)))))), ((), ((List.set z0.2.2.1 (0 + (Int.toNat z2)) (0 : Int)), z1.2)))))
 .fail))
 .fail))
 .fail)))
 .fail)
 .fail)
 .fail)
 (.test (decide ((0 = 0) ∧ ((List.length list) = (List.length list))))
 (.ret (Sum.inr (((), ()), ((), list))))
 .fail))
noncomputable def F71_L8 (v : ((Unit × Unit × Unit × Int × Int) × (Unit × List (Int) × Int))) : Option ((Unit × Unit) × (Unit × List (Int))) := loopO (fun v => (F71_L8_step v).run) v

def F71_w_fo : List FO := [⟨[(.ag [(.nl true true)]), (.one .sb)], []⟩, ⟨[(.ag [(.rw 0 0)]), (.one .sb)], [(.row 0 (.int .i64))]⟩]
noncomputable def F71_t : (Int × Int × Int) → T ((Unit × Bool) ⊕ ((Unit × Bool) × List (Int))) := fun (n, gaps, seed) =>
 (.sub (F98 (n, ((3 : Int), (9 : Int)))) fun z0 =>
 (.test (! z0)
 (.ret (Sum.inl ((), false)))
 (.sub (F98 (gaps, ((0 : Int), n))) fun z1 =>
 (.test (! z1)
 (.ret (Sum.inl ((), false)))
 (.sub (F98 (seed, ((0 : Int), (9999 : Int)))) fun z2 =>
 (.test (! z2)
 (.ret (Sum.inl ((), false)))
 (.test (decide ((0 = 0) ∧ (3 = (List.length (List.set (List.set (List.set (List.replicate 3 (0 : Int)) 0 (1 : Int)) 1 (1 : Int)) 2 (1 : Int))))))
 (.sub (F71_L5 ((n, (gaps, ((), ((), ())))), ((), ((List.set (List.set (List.set (List.replicate 3 (0 : Int)) 0 (1 : Int)) 1 (1 : Int)) 2 (1 : Int)), seed)))) fun z3 =>
 (.test (decide ((0 = 0) ∧ ((List.length z3.2.2.1) = (List.length z3.2.2.1))))
 (.sub (F71_L8 (((), ((), ((), (z3.1.1, (0 : Int))))), ((), (z3.2.2.1, z3.2.2.2)))) fun z4 =>
 (.test (decide ((0 = 0) ∧ ((List.length z4.2.2) = (List.length z4.2.2))))
 (.ret (Sum.inr (((), true), z4.2.2)))
 .fail))
 .fail))
 .fail)))))))
noncomputable def F71_w (v : (Int × Int × Int)) : Option ((Unit × Bool) ⊕ ((Unit × Bool) × List (Int))) := (F71_t v).run
noncomputable def F71_E : TEnv := (((E0.add1 n_F98 F98_sh F98_fo F98).add1 n_F53 F53_sh F53_fo F53).add1 n_F89 F89_sh F89_fo F89)
theorem F71_Eok : (F71_E).OK := (((E0ok.add1 F98_ok).add1 F53_ok).add1 F89_ok)
noncomputable def F71_told : Nat → Option SealT := fun id => if id = 5 then some (LSh.told F71_L5_sh 0 (F71_L5_step)) else if id = 11 then some (LSh.told F71_L11_sh 0 (F71_L11_step)) else if id = 8 then some (LSh.told F71_L8_sh 0 (F71_L8_step)) else none
theorem F71_L5_ok : ToldOK Tryz.prog 0 (loopAt (bodyOf fn_F71) [0]) (LSh.told F71_L5_sh 0 (F71_L5_step)) :=
  loop_ok (E := F71_E) (F71_Eok) (told := F71_told) (l := F71_L5_sh) (step := F71_L5_step) (loopsOK_of (ls := []) (by kernel_rfl) trivial) (by kernel_rfl) (fun v => by kernel_rfl)
theorem F71_L11_ok : ToldOK Tryz.prog 0 (loopAt (bodyOf fn_F71) [1, 0]) (LSh.told F71_L11_sh 0 (F71_L11_step)) :=
  loop_ok (E := F71_E) (F71_Eok) (told := F71_told) (l := F71_L11_sh) (step := F71_L11_step) (loopsOK_of (ls := []) (by kernel_rfl) trivial) (by kernel_rfl) (fun v => by kernel_rfl)
theorem F71_L8_ok : ToldOK Tryz.prog 0 (loopAt (bodyOf fn_F71) [1]) (LSh.told F71_L8_sh 0 (F71_L8_step)) :=
  loop_ok (E := F71_E) (F71_Eok) (told := F71_told) (l := F71_L8_sh) (step := F71_L8_step) (loopsOK_of (ls := [loopAt (bodyOf fn_F71) [1, 0]]) (by kernel_rfl) ⟨.inr ⟨_, by kernel_rfl, F71_L11_ok⟩, trivial⟩) (by kernel_rfl) (fun v => by kernel_rfl)
theorem F71_w_ok : FOK Tryz.prog n_F71 F71_sh F71_w_fo F71_w :=
  fn_ok (E := F71_E) (F71_Eok) (told := F71_told) (fl := []) (c := bodyOf fn_F71) (s := F71_sh) (l := F71_w_fo) (tree := F71_t) fnat_F71 (by kernel_rfl) (by kernel_rfl) (by kernel_rfl) (loopsOK_of (ls := [loopAt (bodyOf fn_F71) [0], loopAt (bodyOf fn_F71) [1]]) (by kernel_rfl) ⟨.inr ⟨_, by kernel_rfl, F71_L5_ok⟩, ⟨.inr ⟨_, by kernel_rfl, F71_L8_ok⟩, trivial⟩⟩) (fun v => by kernel_rfl)
def F71_fo : List FO := [⟨[(.ag [(.rw 0 0)]), (.one .sb)], [(.row 0 (.int .i64))]⟩]
def F71_m : ((Unit × Bool) ⊕ ((Unit × Bool) × List (Int))) → ((Unit × Bool) × List (Int)) := fun o => match o with | (.inl a) => (a, []) | (.inr x) => x
noncomputable def F71 (v : (Int × Int × Int)) : Option ((Unit × Bool) × List (Int)) := (F71_w v).map F71_m
theorem F71_ok : FOK Tryz.prog n_F71 F71_sh F71_fo F71 :=
  FOK.own (l' := F71_fo) F71_w_ok F71_m [(.int .i64)] (by decide) (fun o => match o with | (.inl a) => .inr (by kernel_rfl) | (.inr x) => .inl (by kernel_rfl))

theorem F71_glue (n gaps : Int) : ∀ (m k : Nat) (q : List Int) (z : Int), q ∈ glued k → k + m ≤ 6 → (k + 3 + m : Nat) = n → 0 ≤ z → z < 10007 →
    F71_L5 ((n, (gaps, ((), ((), ())))), ((), (q, z))) = some ((gaps, ((), ((), ()))), ((), mkN m q z))
  | 0, k, q, z, hq, hk, hn, h1, h2 => by
    obtain ⟨_, g1, _⟩ := glued_ok k q hq
    simp only [F71_L5, mkN]
    refine loopO_done ?_
    have : ¬ ((q.length : Int) < n) := by omega
    simp [F71_L5_step, T.run, this]
  | m + 1, k, q, z, hq, hk, hn, h1, h2 => by
    obtain ⟨g0, g1, g2⟩ := glued_ok k q hq
    have hr := rI_B z
    have hj : (rI z % (q.length : Int)).toNat < k + 3 := by have := Int.emod_lt_of_pos (rI z) (show (0 : Int) < (q.length : Int) by omega); omega
    have hnn : 0 ≤ rI z % (q.length : Int) := Int.emod_nonneg _ (by omega)
    have st : (F71_L5_step ((n, (gaps, ((), ((), ())))), ((), (q, z)))).run = some (.inl ((n, (gaps, ((), ((), ())))), ((), (glueL q ((rI z % (q.length : Int)).toNat + 1), rI z)))) := by
      have c0 : (q.length : Int) < n := by omega
      have w1 : w64 (rI z % (q.length : Int) + 1) = (((rI z % (q.length : Int)).toNat + 1 : Nat) : Int) := by rw [w64_id (by omega) (by omega)]; omega
      have hg := F89_eq q ((rI z % (q.length : Int)).toNat + 1) g0 (by omega) (by omega) g2 (by omega) (by omega)
      simp only [F71_L5_step, T.run, c0, decide_true, if_true, F53_eq _ z (show (0 : Int) < (q.length : Int) by omega) h1 h2, Option.bind_some, Nat.zero_add, Nat.le_refl, win_all, w1, hg, and_self]
    by_cases h5 : k < 5
    · have ih := F71_glue n gaps m (k + 1) _ (rI z) (glued_go k h5 q hq _ hj) (by omega) (by omega) hr.1 hr.2
      simp only [F71_L5, mkN] at ih ⊢
      rw [loopO_next st, ih]
    · have hm0 : m = 0 := by omega
      subst hm0
      simp only [F71_L5, mkN]
      rw [loopO_next st]
      refine loopO_done ?_
      have hlen : (glueL q ((rI z % (q.length : Int)).toNat + 1)).length = q.length + 1 := by
        have f1 := (glueL_facts (q := q) (at' := (rI z % (q.length : Int)).toNat + 1) (by omega) (by omega) (by omega) g2).1
        unfold glueL; simp only [List.length_set, f1]
      have : ¬ (((q.length + 1 : Nat) : Int) < n) := by omega
      simp only [F71_L5_step, T.run, hlen, this, decide_false]
      simp
theorem F71_places (q : List Int) (z a b : Int) (hl : q.length < 1000) : F71_L11 (((), ((), ((), ((), (a, (b, ((), ((q.length : Int), (0 : Int))))))))), ((), (q, (z, [])))) = some (((), ((), ((), ((), (a, b))))), ((), (q, (z, pl q)))) := by
  have h := loop_fold (step := fun v => (F71_L11_step v).run) (xs := List.range q.length) (fun k (s : List Int) => s.length ≤ k) (fun k s => (((), ((), ((), ((), (a, (b, ((), ((q.length : Int), (k : Int))))))))), ((), (q, (z, s))))) (plG q) (fun s => (((), ((), ((), ((), (a, b))))), ((), (q, (z, s)))))
    (fun k s x hP hx => by
      obtain ⟨hk, e⟩ := List.getElem?_eq_some_iff.1 hx
      simp only [List.getElem_range] at e
      subst e
      rw [List.length_range] at hk
      have g0 := set_getD hk
      have c0 : (k : Int) < (q.length : Int) := by omega
      have c1 : (0 : Int) ≤ (k : Int) ∧ (k : Int) < (q.length : Int) := by omega
      have c2 : 2 * ((s.length + 1) * 9) ≤ 140737488355328 := by omega
      have w1 : w64 ((k : Int) + 1) = ((k + 1 : Nat) : Int) := by rw [w64_id (by omega) (by omega)]; omega
      by_cases hz : q.getD k 0 > 0
      · have e : plG q s k = s ++ [(k : Int)] := by unfold plG; rw [if_pos hz]
        refine ⟨?_, by rw [e]; simp; omega⟩
        rw [e]
        simp only [F71_L11_step, T.run, c0, c1, decide_true, if_true, and_self, Int.toNat_natCast, Nat.zero_add, g0, Option.bind_some, hz, win_one, win_all, w1, List.length_cons, List.length_nil, c2, List.length_set, List.length_replicate, Nat.le_refl, List.length_append]
      · have e : plG q s k = s := by unfold plG; rw [if_neg hz]
        refine ⟨?_, by rw [e]; omega⟩
        rw [e]
        simp only [F71_L11_step, T.run, c0, c1, decide_true, if_true, and_self, Int.toNat_natCast, Nat.zero_add, g0, Option.bind_some, hz, decide_false, Bool.false_eq_true, if_false, w1])
    (fun s hs => by simp [F71_L11_step, T.run])
    [] (by simp)
  simp only [Int.natCast_zero] at h
  simp only [F71_L11]
  exact h.1
theorem F71_gaps (g : Nat) : ∀ (m : Nat) (q : List Int) (z : Int), q.length < 1000 → m ≤ g → g < 1000 → m ≤ (pl q).length → 0 ≤ z → z < 10007 →
    F71_L8 (((), ((), ((), ((g : Int), ((g - m : Nat) : Int))))), ((), (q, z))) = some (((), ()), ((), gapN m q z))
  | 0, q, z, hl, hm, hg, hp, h1, h2 => by
    simp only [F71_L8, gapN]
    refine loopO_done ?_
    simp [F71_L8_step, T.run]
  | m + 1, q, z, hl, hm, hg, hp, h1, h2 => by
    have hr := rI_B z
    obtain ⟨p1, p2, p3, p4⟩ := pl_pick (q := q) (z := z) (by omega)
    obtain ⟨b1, b2, b3⟩ := pl_mem p4
    have hs := pl_set p4
    have ih := F71_gaps g m (q.set ((pl q).getD (rI z % ((pl q).length : Int)).toNat 0).toNat 0) (rI z) (by simpa using hl) (by omega) hg (by omega) hr.1 hr.2
    simp only [F71_L8, gapN] at ih ⊢
    rw [← ih]
    refine loopO_next ?_
    have c0 : ((g - (m + 1) : Nat) : Int) < (g : Int) := by omega
    have w1 : w64 (((g - (m + 1) : Nat) : Int) + 1) = ((g - m : Nat) : Int) := by rw [w64_id (by omega) (by omega)]; omega
    have c1 : 0 ≤ rI z % ((pl q).length : Int) ∧ rI z % ((pl q).length : Int) < ((pl q).length : Int) := ⟨p1, p2⟩
    have g3 := set_getD (l := q) (p := ((pl q).getD (rI z % ((pl q).length : Int)).toNat 0).toNat) (by omega)
    have c2 : 0 ≤ (pl q).getD (rI z % ((pl q).length : Int)).toNat 0 ∧ (pl q).getD (rI z % ((pl q).length : Int)).toNat 0 < (q.length : Int) := ⟨b1, b2⟩
    simp only [F71_L8_step, T.run, c0, decide_true, if_true, true_and, List.replicate_zero, List.length_nil, F71_places q z _ _ hl, Option.bind_some, F53_eq _ z (show (0 : Int) < ((pl q).length : Int) by omega) h1 h2, c1, and_self, Nat.zero_add, p3, c2, g3, List.length_set, w1]
theorem F71_eq (n g s : Int) : F71 (n, (g, s)) = some (((), (mkPz n g s).1), (mkPz n g s).2) := by
  simp only [F71, F71_w, F71_t, T.run, F98_eq, Option.bind_some, mkPz]
  cases hn : inB 3 9 n with
  | false => simp [F71_m]
  | true =>
    cases hg : inB 0 n g with
    | false => simp [F71_m]
    | true =>
      cases hs : inB 0 9999 s with
      | false => simp [F71_m]
      | true =>
        obtain ⟨m, m1, m2, m3, s1, s2, hq⟩ := mk_start n hn s hs
        have hset : List.set (List.set (List.set (List.replicate 3 (0 : Int)) 0 (1 : Int)) 1 (1 : Int)) 2 (1 : Int) = [1, 1, 1] := rfl
        have h5 := F71_glue n g m 0 [1, 1, 1] s hq (by omega) m3 s1 s2
        obtain ⟨⟨f1, f2⟩, f3, f4⟩ := mkN_facts m 0 [1, 1, 1] s hq (by omega) s1 s2
        rw [inB_iff] at hg hn
        have h8 := F71_gaps g.toNat g.toNat (mkN m [1, 1, 1] s).1 (mkN m [1, 1, 1] s).2 (by omega) (Nat.le_refl _) (by omega) (by rw [pl_full f2, f1]; omega) f3 f4
        rw [Nat.sub_self, show ((g.toNat : Nat) : Int) = g by omega] at h8
        simp only [Bool.not_true, Bool.false_eq_true, if_false, hset, h5, Option.bind_some, Int.natCast_zero] at h8 ⊢
        simp [h8, m1, F71_m]


def F114_sh : FSh := ⟨[(.one (.si .i64)), (.one (.si .i64)), (.one (.si .i64))], []⟩

def F114_fo : List FO := [⟨[(.one .sb)], []⟩]
noncomputable def F114_t : (Int × Int × Int) → T Bool := fun (n, lo, hi) =>
 (.test (decide (n ≥ lo))
 (.ret (decide (n ≤ hi)))
 (.ret false))
noncomputable def F114 (v : (Int × Int × Int)) : Option Bool := (F114_t v).run
noncomputable def F114_E : TEnv := E0
theorem F114_Eok : (F114_E).OK := E0ok
noncomputable def F114_told : Nat → Option SealT := fun id => none
theorem F114_ok : FOK Tryz.prog n_F114 F114_sh F114_fo F114 :=
  fn_ok (E := F114_E) (F114_Eok) (told := F114_told) (fl := []) (c := bodyOf fn_F114) (s := F114_sh) (l := F114_fo) (tree := F114_t) fnat_F114 (by kernel_rfl) (by kernel_rfl) (by kernel_rfl) (loopsOK_of (ls := []) (by kernel_rfl) trivial) (fun v => by kernel_rfl)

theorem F114_eq (n low high : Int) : F114 (n, low, high) = some (inB low high n) := by
  simp only [F114, F114_t, T.run, ge_iff_le, decide_eq_true_eq, inB]
  by_cases h : low ≤ n <;> simp [h]


def F115_sh : FSh := ⟨[(.one (.si .i64))], []⟩

def F115_fo : List FO := [⟨[(.one .sb)], []⟩]
noncomputable def F115_t : Int → T Bool := fun n =>
 (.sub (F114 (n, ((3 : Int), (12 : Int)))) fun z0 =>
 (.ret z0))
noncomputable def F115 (v : Int) : Option Bool := (F115_t v).run
noncomputable def F115_E : TEnv := (E0.add1 n_F114 F114_sh F114_fo F114)
theorem F115_Eok : (F115_E).OK := (E0ok.add1 F114_ok)
noncomputable def F115_told : Nat → Option SealT := fun id => none
theorem F115_ok : FOK Tryz.prog n_F115 F115_sh F115_fo F115 :=
  fn_ok (E := F115_E) (F115_Eok) (told := F115_told) (fl := []) (c := bodyOf fn_F115) (s := F115_sh) (l := F115_fo) (tree := F115_t) fnat_F115 (by kernel_rfl) (by kernel_rfl) (by kernel_rfl) (loopsOK_of (ls := []) (by kernel_rfl) trivial) (fun v => by kernel_rfl)

def F105_sh : FSh := ⟨[(.one (.sl (.int .i64) false false)), (.one (.si .i64)), (.one (.si .i64))], []⟩

def F105_L2_sh : LSh := ⟨(fun ex => match ex with | .norm => [(1, none), (2, none), (9, none), (10, none), (11, none)] | .exit i => if i = 0 then [] else [] | .ret => [(6, none)]), [(1, (.one (.si .i64))), (2, (.one (.si .i64))), (9, (.one (.sl (.int .i64) false false))), (10, (.one (.si .i64))), (11, (.one (.si .i64)))], [], [⟨.ret, [(6, (.one .sb))], []⟩, ⟨(.exit 0), [], []⟩], [], []⟩
noncomputable def F105_L2_step : (Int × Int × List (Int) × Int × Int) → T ((Int × Int × List (Int) × Int × Int) ⊕ (Bool ⊕ Unit)) := fun (lo, hi, t9, t10, t11) =>
 (.test (decide (t11 < t10))
 (.test (decide ((0 ≤ t11) ∧ (t11 < ((List.length t9) : Int))))
 (.sub (t9[(Int.toNat t11)]?) fun z0 =>
 (.sub (F114 (z0, (lo, hi))) fun z1 =>
 (.test (! z1)
 (.ret (Sum.inr (Sum.inl false)))
 (.ret (Sum.inl (lo, (hi, (t9, (t10, (w64 (t11 + 1)))))))))))
 .fail)
 (.ret (Sum.inr (Sum.inr ()))))
noncomputable def F105_L2 (v : (Int × Int × List (Int) × Int × Int)) : Option (Bool ⊕ Unit) := loopO (fun v => (F105_L2_step v).run) v

def F105_fo : List FO := [⟨[(.one .sb)], []⟩]
noncomputable def F105_t : (List (Int) × Int × Int) → T Bool := fun (l, lo, hi) =>
 (.sub (F105_L2 (lo, (hi, (l, (((List.length l) : Int), (0 : Int)))))) fun z0 =>
 (.test (Sum.isLeft z0)
 (.sub (Sum.getLeft? z0) fun z1 =>
 (.ret z1))
 (.sub (Sum.getRight? z0) fun z2 =>
 (.ret true))))
noncomputable def F105 (v : (List (Int) × Int × Int)) : Option Bool := (F105_t v).run
noncomputable def F105_E : TEnv := (E0.add1 n_F114 F114_sh F114_fo F114)
theorem F105_Eok : (F105_E).OK := (E0ok.add1 F114_ok)
noncomputable def F105_told : Nat → Option SealT := fun id => if id = 2 then some (LSh.told F105_L2_sh 0 (F105_L2_step)) else none
theorem F105_L2_ok : ToldOK Tryz.prog 0 (loopAt (bodyOf fn_F105) [0]) (LSh.told F105_L2_sh 0 (F105_L2_step)) :=
  loop_ok (E := F105_E) (F105_Eok) (told := F105_told) (l := F105_L2_sh) (step := F105_L2_step) (loopsOK_of (ls := []) (by kernel_rfl) trivial) (by kernel_rfl) (fun v => by kernel_rfl)
theorem F105_ok : FOK Tryz.prog n_F105 F105_sh F105_fo F105 :=
  fn_ok (E := F105_E) (F105_Eok) (told := F105_told) (fl := []) (c := bodyOf fn_F105) (s := F105_sh) (l := F105_fo) (tree := F105_t) fnat_F105 (by kernel_rfl) (by kernel_rfl) (by kernel_rfl) (loopsOK_of (ls := [loopAt (bodyOf fn_F105) [0]]) (by kernel_rfl) ⟨.inr ⟨_, by kernel_rfl, F105_L2_ok⟩, trivial⟩) (fun v => by kernel_rfl)

theorem F105_eq (l : List Int) (lo hi : Int) (hl : l.length < 4611686018427387904) : F105 (l, lo, hi) = some (l.all (inB lo hi)) := by
  have h := loop_any (step := fun v => (F105_L2_step v).run) (xs := l) (fun n => !inB lo hi n) (fun k => (lo, hi, l, (l.length : Int), (k : Int))) (.inl false) (.inr ())
    (fun k x hx => by
      have hk := getElem?_lt hx
      simp only [F105_L2_step, T.run, F114_eq, Option.bind_some, Int.toNat_natCast, hx]
      rw [w64_id (by omega) (by omega)]
      cases inB lo hi x <;> simp [hk])
    (by simp [F105_L2_step, T.run])
  simp only [F105, F105_t, T.run, F105_L2]
  simp only [Int.natCast_zero] at h
  rw [h, ← all_any]
  cases hb : l.any (fun n => !inB lo hi n) <;> simp


def F106_sh : FSh := ⟨[(.one (.sl (.int .i64) false false))], []⟩

def F106_fo : List FO := [⟨[(.one (.rw 0 0))], [(.row 0 (.int .i64))]⟩]
noncomputable def F106_t : List (Int) → T (Unit × List (Int)) := fun l =>
 (.test true
 (.test (decide ((2 * ((0 + (List.length l)) * 9)) ≤ 140737488355328))
 (.test (decide ((0 = 0) ∧ ((0 + (List.length l)) = (List.length ((win (List.replicate 0 (0 : Int)) 0 0) ++ l)))))
 (.ret ((), ((win (List.replicate 0 (0 : Int)) 0 0) ++ l)))
 .fail)
 .fail)
 .fail)
noncomputable def F106 (v : List (Int)) : Option (Unit × List (Int)) := (F106_t v).run
noncomputable def F106_E : TEnv := E0
theorem F106_Eok : (F106_E).OK := E0ok
noncomputable def F106_told : Nat → Option SealT := fun id => none
theorem F106_ok : FOK Tryz.prog n_F106 F106_sh F106_fo F106 :=
  fn_ok (E := F106_E) (F106_Eok) (told := F106_told) (fl := []) (c := bodyOf fn_F106) (s := F106_sh) (l := F106_fo) (tree := F106_t) fnat_F106 (by kernel_rfl) (by kernel_rfl) (by kernel_rfl) (loopsOK_of (ls := []) (by kernel_rfl) trivial) (fun v => by kernel_rfl)

theorem F106_eq (l : List Int) (hl : l.length < 1000000000000) : F106 l = some ((), l) := by
  have h : 2 * (l.length * 9) ≤ 140737488355328 := by omega
  have hw : win ([] : List Int) 0 0 = [] := rfl
  simp [F106, F106_t, T.run, hw, h]


def F90_sh : FSh := ⟨[(.one (.si .i64)), (.one (.si .i64))], []⟩

def F90_fo : List FO := [⟨[(.one (.si .i64))], []⟩]
noncomputable def F90_t : (Int × Int) → T Int := fun (a, b) =>
 (.test (decide (a < b))
 (.ret a)
 (.ret b))
noncomputable def F90 (v : (Int × Int)) : Option Int := (F90_t v).run
noncomputable def F90_E : TEnv := E0
theorem F90_Eok : (F90_E).OK := E0ok
noncomputable def F90_told : Nat → Option SealT := fun id => none
theorem F90_ok : FOK Tryz.prog n_F90 F90_sh F90_fo F90 :=
  fn_ok (E := F90_E) (F90_Eok) (told := F90_told) (fl := []) (c := bodyOf fn_F90) (s := F90_sh) (l := F90_fo) (tree := F90_t) fnat_F90 (by kernel_rfl) (by kernel_rfl) (by kernel_rfl) (loopsOK_of (ls := []) (by kernel_rfl) trivial) (fun v => by kernel_rfl)

def F99_sh : FSh := ⟨[(.one (.si .i64)), (.one (.si .i64))], []⟩

def F99_fo : List FO := [⟨[(.one (.si .i64))], []⟩]
noncomputable def F99_t : (Int × Int) → T Int := fun (a, b) =>
 (.test (decide (a > b))
 (.ret a)
 (.ret b))
noncomputable def F99 (v : (Int × Int)) : Option Int := (F99_t v).run
noncomputable def F99_E : TEnv := E0
theorem F99_Eok : (F99_E).OK := E0ok
noncomputable def F99_told : Nat → Option SealT := fun id => none
theorem F99_ok : FOK Tryz.prog n_F99 F99_sh F99_fo F99 :=
  fn_ok (E := F99_E) (F99_Eok) (told := F99_told) (fl := []) (c := bodyOf fn_F99) (s := F99_sh) (l := F99_fo) (tree := F99_t) fnat_F99 (by kernel_rfl) (by kernel_rfl) (by kernel_rfl) (loopsOK_of (ls := []) (by kernel_rfl) trivial) (fun v => by kernel_rfl)

def F100_sh : FSh := ⟨[(.ag [(.si .i64), (.si .i64)]), (.ag [(.si .i64), (.si .i64)])], []⟩

def F100_fo : List FO := [⟨[(.one .sb)], []⟩]
noncomputable def F100_t : ((Int × Int) × (Int × Int)) → T Bool := fun ((d_0, d_1), (e_0, e_1)) =>
 (.test (decide (d_0 < e_0))
 (.ret true)
 (.test (d_0 == e_0)
 (.ret (decide (d_1 < e_1)))
 (.ret false)))
noncomputable def F100 (v : ((Int × Int) × (Int × Int))) : Option Bool := (F100_t v).run
noncomputable def F100_E : TEnv := E0
theorem F100_Eok : (F100_E).OK := E0ok
noncomputable def F100_told : Nat → Option SealT := fun id => none
theorem F100_ok : FOK Tryz.prog n_F100 F100_sh F100_fo F100 :=
  fn_ok (E := F100_E) (F100_Eok) (told := F100_told) (fl := []) (c := bodyOf fn_F100) (s := F100_sh) (l := F100_fo) (tree := F100_t) fnat_F100 (by kernel_rfl) (by kernel_rfl) (by kernel_rfl) (loopsOK_of (ls := []) (by kernel_rfl) trivial) (fun v => by kernel_rfl)

theorem F100_eq (d e : Dg) : F100 (d, e) = some (ltD d e) := by
  obtain ⟨a, b⟩ := d
  obtain ⟨c, f⟩ := e
  simp only [F100, F100_t, T.run, ltD]
  by_cases h1 : a < c
  · simp [h1]
  · by_cases h2 : a = c
    · subst h2; simp [h1]
    · simp [h1, h2]


end Go.Proofs.W
