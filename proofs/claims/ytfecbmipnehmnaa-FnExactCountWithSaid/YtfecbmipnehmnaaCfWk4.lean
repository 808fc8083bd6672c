/- Functions of the program, walked, and what they compute. -/
import Derived.Test.YtfecbmipnehmnaaCfWk3
set_option linter.unusedVariables false
set_option linter.unusedSimpArgs false
set_option maxRecDepth 100000
set_option maxHeartbeats 4000000
namespace Go.Proofs.W
open Go Go.Gm Go.Proofs
open Go.RowKit Go.Shelf
def s_CountWith_sh : FSh := ⟨[(.one (.si .i64)), (.one (.sl (.pair (.int .i64) (.int .i64)) false false))], []⟩

def s_CountWith_L6_sh : LSh := ⟨(fun ex => match ex with | .norm => [(6, none), (21, none), (22, none), (23, none)] | .exit i => if i = 0 then [(6, none)] else [] | .ret => [(4, none), (5, none)]), [(6, (.one (.si .i64))), (21, (.one (.rw 0 0))), (22, (.one (.si .i64))), (23, (.one (.si .i64)))], [(.row 0 (.int .i64))], [⟨(.exit 0), [(6, (.one (.si .i64)))], []⟩], [], []⟩
noncomputable def s_CountWith_L6_step : ((Int × Unit × Int × Int) × List (Int)) → T (((Int × Unit × Int × Int) × List (Int)) ⊕ Int) := fun ((out, (), t22, t23), t21) =>
  (.test (decide (t23 < t22))
  (.test (decide ((0 ≤ t23) ∧ (t23 < ((List.length t21) : Int))))
   (.sub (t21[(0 + (Int.toNat t23))]?) fun z0 =>
    (.sub (s_caCount z0) fun z1 =>
    (.test (decide ((0 = 0) ∧ ((List.length t21) = (List.length t21))))
    (.ret (Sum.inl (((w64 (out * z1)), ((), (t22, (w64 (t23 + 1))))), t21)))
    .fail)))
   .fail)
  (.ret (Sum.inr out)))
noncomputable def s_CountWith_L6 (v : ((Int × Unit × Int × Int) × List (Int))) : Option Int := loopO (fun v => (s_CountWith_L6_step v).run) v

def s_CountWith_fo : List FO := [⟨[(.one (.si .i64)), (.one .sb)], []⟩]
noncomputable def s_CountWith_t : (Int × List ((Int × Int))) → T (Int × Bool) := fun (n, ds) =>
  (.sub (s_IsCut (n, ds)) fun z0 =>
  (.test (! z0)
  (.ret ((0 : Int), false))
  (.sub (s_SizesOfCut (n, ds)) fun z1 =>
   (.test (decide ((0 = 0) ∧ ((List.length z1.2) = (List.length z1.2))))
   (.sub (s_CountWith_L6 (((1 : Int), ((), (((List.length z1.2) : Int), (0 : Int)))), z1.2)) fun z2 =>
    (.ret (z2, true)))
   .fail))))
noncomputable def s_CountWith (v : (Int × List ((Int × Int)))) : Option (Int × Bool) := (s_CountWith_t v).run
noncomputable def s_CountWith_E : TEnv := (((E0.add1 n_s_IsCut s_IsCut_sh s_IsCut_fo s_IsCut).add1 n_s_SizesOfCut s_SizesOfCut_sh s_SizesOfCut_fo s_SizesOfCut).add1 n_s_caCount s_caCount_sh s_caCount_fo s_caCount)
theorem s_CountWith_Eok : (s_CountWith_E).OK := (((E0ok.add1 s_IsCut_ok).add1 s_SizesOfCut_ok).add1 s_caCount_ok)
noncomputable def s_CountWith_told : Nat → Option SealT := fun id => if id = 6 then some (LSh.told s_CountWith_L6_sh 0 (s_CountWith_L6_step)) else none
theorem s_CountWith_L6_ok : ToldOK Try.prog 0 (loopAt (bodyOf fn_s_CountWith) [0]) (LSh.told s_CountWith_L6_sh 0 (s_CountWith_L6_step)) :=
  loop_ok (E := s_CountWith_E) (s_CountWith_Eok) (told := s_CountWith_told) (l := s_CountWith_L6_sh) (step := s_CountWith_L6_step) (loopsOK_of (ls := []) (by kernel_rfl) trivial) (by kernel_rfl) (fun v => by kernel_rfl)
theorem s_CountWith_ok : FOK Try.prog n_s_CountWith s_CountWith_sh s_CountWith_fo s_CountWith :=
  fn_ok (E := s_CountWith_E) (s_CountWith_Eok) (told := s_CountWith_told) (fl := []) (c := bodyOf fn_s_CountWith) (s := s_CountWith_sh) (l := s_CountWith_fo) (tree := s_CountWith_t) fnat_s_CountWith (by kernel_rfl) (by kernel_rfl) (by kernel_rfl) (loopsOK_of (ls := [loopAt (bodyOf fn_s_CountWith) [0]]) (by kernel_rfl) ⟨.inr ⟨_, by kernel_rfl, s_CountWith_L6_ok⟩, trivial⟩) (fun v => by kernel_rfl)

theorem s_CountWith_L6_eq (l : List Int) (hl : l.length ≤ 100) (hb : ∀ s ∈ l, 3 ≤ s ∧ s ≤ 12) : ∀ (m k : Nat) (out : Int), k + m = l.length →
    s_CountWith_L6 ((out, ((), ((l.length : Int), (k : Int)))), l) = some ((l.drop k).foldl (fun o s => w64 (o * catV s)) out) := by
  intro m
  induction m with
  | zero =>
    intro k out hk
    rw [List.drop_eq_nil_of_le (by omega)]
    simp only [s_CountWith_L6]
    refine loopO_done ?_
    rw [s_CountWith_L6_step, T.run_test, if_neg (by rw [decide_eq_true_eq]; omega), T.run_ret]
    rfl
  | succ m ih =>
    intro k out hk
    have hlt : k < l.length := by omega
    have hs := hb l[k] (List.getElem_mem hlt)
    have w1 : w64 ((k : Int) + 1) = ((k + 1 : Nat) : Int) := by rw [w64_id (by omega) (by omega)]; omega
    have := ih (k + 1) (w64 (out * catV l[k])) (by omega)
    rw [List.drop_eq_getElem_cons hlt, List.foldl_cons]
    simp only [s_CountWith_L6] at this ⊢
    rw [← this]
    refine loopO_next ?_
    rw [s_CountWith_L6_step, T.run_test, if_pos (decide_eq_true (by omega)), T.run_test, if_pos (decide_eq_true (by omega)), T.run_sub, Nat.zero_add, Int.toNat_natCast, List.getElem?_eq_getElem hlt, Option.bind_some, T.run_sub, s_caCount_eq _ hs.1 hs.2, Option.bind_some, T.run_test, if_pos (by simp), T.run_ret, w1]
theorem s_CountWith_eq (n : Int) (ds : List Dg) (hl : ds.length < 4611686018427387904) : s_CountWith (n, ds) = some (finV n ds) := by
  have hS := s_SizesOfCut_eq n ds hl
  rw [s_CountWith, s_CountWith_t, T.run_sub, s_IsCut, s_IsCut_t, T.run_sub, s_cuGood_eq n ds hl, Option.bind_some, T.run_ret, Option.bind_some, T.run_test, finV]
  cases h : isCut n ds with
  | false => rfl
  | true =>
    obtain ⟨N, rfl, h3, hN, hlen, hc⟩ := isCut_cut h
    rw [h, if_pos rfl, Int.toNat_natCast] at hS
    have hsl := (sortI_perm (szL N ds)).length_eq
    have hL := s_CountWith_L6_eq (sortI (szL N ds)) (by rw [hsl, szL_len hc h3]; omega) (fun s hs => by have := szL_mem hc h3 ((sortI_perm _).mem_iff.1 hs); omega) (sortI (szL N ds)).length 0 1 (by omega)
    rw [Int.natCast_zero, List.drop_zero, foldl_mul_perm catV (sortI_perm (szL N ds))] at hL
    rw [if_neg (by simp), T.run_sub, hS, Option.bind_some, T.run_test, if_pos (by simp), T.run_sub, hL, Option.bind_some, T.run_ret, Int.toNat_natCast]
    rfl


def i_CountWith_sh : FSh := ⟨[(.one (.si .i64)), (.one (.sl (.pair (.int .i64) (.int .i64)) false false))], []⟩

def i_CountWith_fo : List FO := [⟨[(.one (.si .i64)), (.one .sb)], []⟩]
noncomputable def i_CountWith_t : (Int × List ((Int × Int))) → T (Int × Bool) := fun (n, ds) =>
  (.sub (i_CountFiner (n, ds)) fun z0 =>
  (.ret (z0.1, z0.2)))
noncomputable def i_CountWith (v : (Int × List ((Int × Int)))) : Option (Int × Bool) := (i_CountWith_t v).run
noncomputable def i_CountWith_E : TEnv := (E0.add1 n_i_CountFiner i_CountFiner_sh i_CountFiner_fo i_CountFiner)
theorem i_CountWith_Eok : (i_CountWith_E).OK := (E0ok.add1 i_CountFiner_ok)
noncomputable def i_CountWith_told : Nat → Option SealT := fun id => none
theorem i_CountWith_ok : FOK Try.prog n_i_CountWith i_CountWith_sh i_CountWith_fo i_CountWith :=
  fn_ok (E := i_CountWith_E) (i_CountWith_Eok) (told := i_CountWith_told) (fl := []) (c := bodyOf fn_i_CountWith) (s := i_CountWith_sh) (l := i_CountWith_fo) (tree := i_CountWith_t) fnat_i_CountWith (by kernel_rfl) (by kernel_rfl) (by kernel_rfl) (loopsOK_of (ls := []) (by kernel_rfl) trivial) (fun v => by kernel_rfl)

theorem i_CountWith_eq (n : Int) (ds : List Dg) (hl : ds.length < 4611686018427387904) : i_CountWith (n, ds) = some (finV n ds) := by
  rw [i_CountWith, i_CountWith_t, T.run_sub, i_CountFiner_eq n ds hl, Option.bind_some, T.run_ret]


def l_eqDiagonal_sh : FSh := ⟨[(.ag [(.si .i64), (.si .i64)]), (.ag [(.si .i64), (.si .i64)])], []⟩

def l_eqDiagonal_fo : List FO := [⟨[(.one .sb)], []⟩]
noncomputable def l_eqDiagonal_t : ((Int × Int) × (Int × Int)) → T Bool := fun ((a_0, a_1), (b_0, b_1)) =>
  (.test (a_0 != b_0)
  (.ret false)
  (.test (a_1 != b_1)
   (.ret false)
   (.ret true)))
noncomputable def l_eqDiagonal (v : ((Int × Int) × (Int × Int))) : Option Bool := (l_eqDiagonal_t v).run
noncomputable def l_eqDiagonal_E : TEnv := E0
theorem l_eqDiagonal_Eok : (l_eqDiagonal_E).OK := E0ok
noncomputable def l_eqDiagonal_told : Nat → Option SealT := fun id => none
theorem l_eqDiagonal_ok : FOK Try.prog n_l_eqDiagonal l_eqDiagonal_sh l_eqDiagonal_fo l_eqDiagonal :=
  fn_ok (E := l_eqDiagonal_E) (l_eqDiagonal_Eok) (told := l_eqDiagonal_told) (fl := []) (c := bodyOf fn_l_eqDiagonal) (s := l_eqDiagonal_sh) (l := l_eqDiagonal_fo) (tree := l_eqDiagonal_t) fnat_l_eqDiagonal (by kernel_rfl) (by kernel_rfl) (by kernel_rfl) (loopsOK_of (ls := []) (by kernel_rfl) trivial) (fun v => by kernel_rfl)

theorem l_eqDiagonal_eq (a b : Int × Int) : l_eqDiagonal (a, b) = some (decide (a = b)) := by
  obtain ⟨a0, a1⟩ := a
  obtain ⟨b0, b1⟩ := b
  simp only [l_eqDiagonal, l_eqDiagonal_t, T.run]
  by_cases h0 : a0 = b0
  · by_cases h1 : a1 = b1
    · simp [h0, h1]
    · simp [h0, h1]
  · simp [h0]


def l_eqDiagonalS_sh : FSh := ⟨[(.one (.sl (.pair (.int .i64) (.int .i64)) false false)), (.one (.sl (.pair (.int .i64) (.int .i64)) false false))], []⟩

def l_eqDiagonalS_L4_sh : LSh := ⟨(fun ex => match ex with | .norm => [(0, none), (1, none), (5, none)] | .exit i => if i = 0 then [] else [] | .ret => [(4, none)]), [(0, (.one (.sl (.pair (.int .i64) (.int .i64)) false false))), (1, (.one (.sl (.pair (.int .i64) (.int .i64)) false false))), (5, (.one (.si .i64)))], [], [⟨.ret, [(4, (.one .sb))], []⟩, ⟨(.exit 0), [], []⟩], [], []⟩
noncomputable def l_eqDiagonalS_L4_step : (List ((Int × Int)) × List ((Int × Int)) × Int) → T ((List ((Int × Int)) × List ((Int × Int)) × Int) ⊕ (Bool ⊕ Unit)) := fun (a, b, i) =>
  (.test (decide (i < ((List.length a) : Int)))
  (.test (decide ((0 ≤ i) ∧ (i < ((List.length a) : Int))))
   (.sub (a[(Int.toNat i)]?) fun z0 =>
    (.test (decide ((0 ≤ i) ∧ (i < ((List.length b) : Int))))
    (.sub (b[(Int.toNat i)]?) fun z1 =>
     (.sub (l_eqDiagonal ((z0.1, z0.2), (z1.1, z1.2))) fun z2 =>
     (.test (! z2)
     (.ret (Sum.inr (Sum.inl false)))
     (.ret (Sum.inl (a, (b, (w64 (i + 1)))))))))
    .fail))
   .fail)
  (.ret (Sum.inr (Sum.inr ()))))
noncomputable def l_eqDiagonalS_L4 (v : (List ((Int × Int)) × List ((Int × Int)) × Int)) : Option (Bool ⊕ Unit) := loopO (fun v => (l_eqDiagonalS_L4_step v).run) v

def l_eqDiagonalS_fo : List FO := [⟨[(.one .sb)], []⟩]
noncomputable def l_eqDiagonalS_t : (List ((Int × Int)) × List ((Int × Int))) → T Bool := fun (a, b) =>
  (.test (((List.length a) : Int) != ((List.length b) : Int))
  (.ret false)
  (.sub (l_eqDiagonalS_L4 (a, (b, (0 : Int)))) fun z0 =>
   (.test (Sum.isLeft z0)
   (.sub (Sum.getLeft? z0) fun z1 =>
    (.ret z1))
   (.sub (Sum.getRight? z0) fun z2 =>
    (.ret true)))))
noncomputable def l_eqDiagonalS (v : (List ((Int × Int)) × List ((Int × Int)))) : Option Bool := (l_eqDiagonalS_t v).run
noncomputable def l_eqDiagonalS_E : TEnv := (E0.add1 n_l_eqDiagonal l_eqDiagonal_sh l_eqDiagonal_fo l_eqDiagonal)
theorem l_eqDiagonalS_Eok : (l_eqDiagonalS_E).OK := (E0ok.add1 l_eqDiagonal_ok)
noncomputable def l_eqDiagonalS_told : Nat → Option SealT := fun id => if id = 4 then some (LSh.told l_eqDiagonalS_L4_sh 0 (l_eqDiagonalS_L4_step)) else none
theorem l_eqDiagonalS_L4_ok : ToldOK Try.prog 0 (loopAt (bodyOf fn_l_eqDiagonalS) [0]) (LSh.told l_eqDiagonalS_L4_sh 0 (l_eqDiagonalS_L4_step)) :=
  loop_ok (E := l_eqDiagonalS_E) (l_eqDiagonalS_Eok) (told := l_eqDiagonalS_told) (l := l_eqDiagonalS_L4_sh) (step := l_eqDiagonalS_L4_step) (loopsOK_of (ls := []) (by kernel_rfl) trivial) (by kernel_rfl) (fun v => by kernel_rfl)
theorem l_eqDiagonalS_ok : FOK Try.prog n_l_eqDiagonalS l_eqDiagonalS_sh l_eqDiagonalS_fo l_eqDiagonalS :=
  fn_ok (E := l_eqDiagonalS_E) (l_eqDiagonalS_Eok) (told := l_eqDiagonalS_told) (fl := []) (c := bodyOf fn_l_eqDiagonalS) (s := l_eqDiagonalS_sh) (l := l_eqDiagonalS_fo) (tree := l_eqDiagonalS_t) fnat_l_eqDiagonalS (by kernel_rfl) (by kernel_rfl) (by kernel_rfl) (loopsOK_of (ls := [loopAt (bodyOf fn_l_eqDiagonalS) [0]]) (by kernel_rfl) ⟨.inr ⟨_, by kernel_rfl, l_eqDiagonalS_L4_ok⟩, trivial⟩) (fun v => by kernel_rfl)

theorem l_eqDiagonalS_eq (a b : List (Int × Int)) (hl : a.length < 4611686018427387904) : l_eqDiagonalS (a, b) = some (decide (a = b)) := by
  by_cases hab : a.length = b.length
  · have h := loop_any (step := fun v => (l_eqDiagonalS_L4_step v).run) (xs := a.zip b) (fun p => !(decide (p.1 = p.2))) (fun k => (a, b, (k : Int))) (.inl false) (.inr ())
      (fun k x hx => by
        have hk := getElem?_lt hx
        rw [List.length_zip, hab, Nat.min_self] at hk
        rw [List.getElem?_zip_eq_some] at hx
        simp only [l_eqDiagonalS_L4_step, T.run, Option.bind_some, Int.toNat_natCast, hx.1, hx.2, Prod.eta, l_eqDiagonal_eq]
        rw [w64_id (by omega) (by omega)]
        have hka : k < a.length := by omega
        cases decide (x.1 = x.2) <;> simp [hk, hka])
      (by simp [l_eqDiagonalS_L4_step, T.run, hab])
    simp only [l_eqDiagonalS, l_eqDiagonalS_t, T.run, l_eqDiagonalS_L4]
    simp only [Int.natCast_zero] at h
    rw [h, hab]
    rw [zip_any_neD a b hab]
    cases decide (a = b) <;> simp
  · simp only [l_eqDiagonalS, l_eqDiagonalS_t, T.run]
    have : a ≠ b := fun e => hab (by rw [e])
    simp [this]
    omega


def l_FnExactCountWith_sh : FSh := ⟨[(.one (.si .i64)), (.one (.sl (.pair (.int .i64) (.int .i64)) false false))], []⟩

def l_FnExactCountWith_fo : List FO := [⟨[(.one .sb)], []⟩]
noncomputable def l_FnExactCountWith_t : (Int × List ((Int × Int))) → T Bool := fun (aN, aDs) =>
  (.sub (l_szDiagonalS (aDs, (1048576 : Int))) fun z0 =>
  (.test (decide (z0 < 0))
  (.ret true)
  (.sub (l_toDiagonalS aDs) fun z1 =>
   (.test (decide ((0 + (List.length z1.2)) ≤ (List.length z1.2)))
   (.sub (s_CountWith (aN, (win z1.2 0 (List.length z1.2)))) fun z2 =>
    (.sub (l_toDiagonalS aDs) fun z3 =>
    (.test (decide ((0 + (List.length z3.2)) ≤ (List.length z3.2)))
    (.sub (i_CountWith (aN, (win z3.2 0 (List.length z3.2)))) fun z4 =>
     (.test (z4.1 != z2.1)
     (.ret false)
     (.test (! (z4.2 == z2.2))
      (.ret false)
      (.sub (l_toDiagonalS aDs) fun z5 =>
       (.test (decide ((0 + (List.length z3.2)) ≤ (List.length z3.2)))
       (.test (decide ((0 + (List.length z5.2)) ≤ (List.length z5.2)))
        (.sub (l_eqDiagonalS ((win z3.2 0 (List.length z3.2)), (win z5.2 0 (List.length z5.2)))) fun z6 =>
         (.test (! z6)
         (.ret false)
         (.ret true)))
        .fail)
       .fail)))))
    .fail)))
   .fail))))
noncomputable def l_FnExactCountWith (v : (Int × List ((Int × Int)))) : Option Bool := (l_FnExactCountWith_t v).run
noncomputable def l_FnExactCountWith_E : TEnv := (((((E0.add1 n_l_szDiagonalS l_szDiagonalS_sh l_szDiagonalS_fo l_szDiagonalS).add1 n_l_toDiagonalS l_toDiagonalS_sh l_toDiagonalS_fo l_toDiagonalS).add1 n_s_CountWith s_CountWith_sh s_CountWith_fo s_CountWith).add1 n_i_CountWith i_CountWith_sh i_CountWith_fo i_CountWith).add1 n_l_eqDiagonalS l_eqDiagonalS_sh l_eqDiagonalS_fo l_eqDiagonalS)
theorem l_FnExactCountWith_Eok : (l_FnExactCountWith_E).OK := (((((E0ok.add1 l_szDiagonalS_ok).add1 l_toDiagonalS_ok).add1 s_CountWith_ok).add1 i_CountWith_ok).add1 l_eqDiagonalS_ok)
noncomputable def l_FnExactCountWith_told : Nat → Option SealT := fun id => none
theorem l_FnExactCountWith_ok : FOK Try.prog n_l_FnExactCountWith l_FnExactCountWith_sh l_FnExactCountWith_fo l_FnExactCountWith :=
  fn_ok (E := l_FnExactCountWith_E) (l_FnExactCountWith_Eok) (told := l_FnExactCountWith_told) (fl := []) (c := bodyOf fn_l_FnExactCountWith) (s := l_FnExactCountWith_sh) (l := l_FnExactCountWith_fo) (tree := l_FnExactCountWith_t) fnat_l_FnExactCountWith (by kernel_rfl) (by kernel_rfl) (by kernel_rfl) (loopsOK_of (ls := []) (by kernel_rfl) trivial) (fun v => by kernel_rfl)

theorem l_FnExactCountWith_true (v : Int × List (Int × Int)) (hs : smallL ASh.small [.one (.si .i64), .one (.sl (.pair (.int .i64) (.int .i64)) false false)] v) : l_FnExactCountWith v = some true := by
  obtain ⟨n, ds⟩ := v
  have hl0 : ds.length < 140737488355328 := hs.2.1
  have hl : ds.length < 4611686018427387904 := by omega
  rw [l_FnExactCountWith, l_FnExactCountWith_t, T.run_sub, l_szDiagonalS_eq ds _ (by decide) hl, Option.bind_some, T.run_test]
  by_cases hsz : ((1048576 : Int) - (ds.length : Int) < 0)
  · rw [if_pos (by rw [if_pos hsz]; rfl)]; rfl
  · have hr := i_CountWith_eq n ds hl
    have hsp := s_CountWith_eq n ds hl
    have ht := l_toDiagonalS_eq ds (by omega)
    rw [if_neg (by rw [if_neg hsz, decide_eq_true_eq]; exact hsz)]
    simp (config := { maxSteps := 10000000 }) [T.run, ht, win_all, hr, hsp, l_eqDiagonalS_eq ds ds hl]


end Go.Proofs.W
