/- Functions of the program, walked, and what they compute. -/
import Derived.Test.YtaanfhjiihekeaaGreatPmWk5
set_option linter.unusedVariables false
set_option linter.unusedSimpArgs false
set_option maxRecDepth 100000
set_option maxHeartbeats 4000000
namespace Go.Proofs.W
open Go Go.Gm Go.Proofs
open Go.RowKit Go.Shelf
def F110_sh : FSh := ⟨[(.ag [(.sl (.int .i64) false false)])], []⟩

def F110_L5_sh : LSh := ⟨(fun ex => match ex with | .norm => [(1, none), (4, none), (13, none), (14, none), (15, none)] | .exit i => if i = 0 then [(4, none)] else [] | .ret => [(2, none), (3, none)]), [(1, (.one (.pf 0 0 0))), (4, (.one (.rw 1 0))), (13, (.one (.rw 2 0))), (14, (.one (.si .i64))), (15, (.one (.si .i64)))], [(.rcd 0 [(.sl (.int .i64) false false)]), (.row 0 (.list true (.int .i64))), (.row 0 (.list true (.int .i64)))], [⟨(.exit 0), [(4, (.one (.rw 0 0)))], [(.row 0 (.list true (.int .i64)))]⟩], [], []⟩
noncomputable def F110_L5_step : ((Unit × Unit × Unit × Int × Int) × (List (Int) × List (List (Int)) × List (List (Int)))) → T (((Unit × Unit × Unit × Int × Int) × (List (Int) × List (List (Int)) × List (List (Int)))) ⊕ (Unit × List (List (Int)))) := fun (((), (), (), t14, t15), (p_0, out, t13)) =>
 (.test (decide (t15 < t14))
 (.test (decide ((0 ≤ t15) ∧ (t15 < ((List.length t13) : Int))))
 (.sub (t13[(0 + (Int.toNat t15))]?) fun z0 =>
 (.sub (F103 (p_0, z0)) fun z1 =>
 (.test z1
 (.test (decide (1 ≤ (List.length (List.set (List.replicate 1 ([] : List (Int))) 0 z0))))
 (.test (decide ((0 + (List.length out)) ≤ (List.length out)))
 (.test (decide ((2 * (((List.length out) + (List.length (win (List.set (List.replicate 1 ([] : List (Int))) 0 z0) 0 1))) * 25)) ≤ 140737488355328))
 (.test (decide ((0 = 0) ∧ (((List.length out) + (List.length (win (List.set (List.replicate 1 ([] : List (Int))) 0 z0) 0 1))) = (List.length ((win out 0 (List.length out)) ++ (win (List.set (List.replicate 1 ([] : List (Int))) 0 z0) 0 1))))))
 (.test (decide ((0 = 0) ∧ ((List.length t13) = (List.length t13))))
 (.ret (Sum.inl (((), ((), ((), (t14, (w64 (t15 + 1)))))), (p_0, (((win out 0 (List.length out)) ++ (win (List.set (List.replicate 1 ([] : List (Int))) 0 z0) 0 1)), t13)))))
 .fail)
 .fail)
 .fail)
 .fail)
 .fail)
 (.test (decide ((0 = 0) ∧ ((List.length out) = (List.length out))))
 (.test (decide ((0 = 0) ∧ ((List.length t13) = (List.length t13))))
 (.ret (Sum.inl (((), ((), ((), (t14, (w64 (t15 + 1)))))), (p_0, (out, t13)))))
 .fail)
 .fail))))
 .fail)
 (.test (decide ((0 = 0) ∧ ((List.length out) = (List.length out))))
 (.ret (Sum.inr ((), out)))
 .fail))
noncomputable def F110_L5 (v : ((Unit × Unit × Unit × Int × Int) × (List (Int) × List (List (Int)) × List (List (Int))))) : Option (Unit × List (List (Int))) := loopO (fun v => (F110_L5_step v).run) v

def F110_fo : List FO := [⟨[(.one (.rw 0 0)), (.one .sb)], [(.row 0 (.list true (.int .i64)))]⟩]
noncomputable def F110_t : List (Int) → T ((Unit × Bool) × List (List (Int))) := fun p_0 =>
 (.sub (F101 p_0) fun z0 =>
 (.test (! z0)
 (.test true
 (.ret (((), false), ([] : List (List Int))))
 .fail)
 (.sub (F58 ((List.length p_0) : Int)) fun z1 =>
 (.test (decide ((0 = 0) ∧ (0 = (List.length ([] : List (List Int))))))
 (.test (decide ((0 = 0) ∧ ((List.length z1.2) = (List.length z1.2))))
 (.sub (F110_L5 (((), ((), ((), (((List.length z1.2) : Int), (0 : Int))))), (p_0, (([] : List (List Int)), z1.2)))) fun z2 =>
 (.test (decide (((List.length z2.2) : Int) > 300))
 (.test true
 (.ret (((), false), ([] : List (List Int))))
 .fail)
 (.test (decide ((0 = 0) ∧ ((List.length z2.2) = (List.length z2.2))))
 (.ret (((), true), z2.2))
 .fail)))
 .fail)
 .fail))))
noncomputable def F110 (v : List (Int)) : Option ((Unit × Bool) × List (List (Int))) := (F110_t v).run
noncomputable def F110_E : TEnv := (((E0.add1 n_F101 F101_sh F101_fo F101).add1 n_F58 F58_sh F58_fo F58).add1 n_F103 F103_sh F103_fo F103)
theorem F110_Eok : (F110_E).OK := (((E0ok.add1 F101_ok).add1 F58_ok).add1 F103_ok)
noncomputable def F110_told : Nat → Option SealT := fun id => if id = 5 then some (LSh.told F110_L5_sh 0 (F110_L5_step)) else none
theorem F110_L5_ok : ToldOK Tryz.prog 0 (loopAt (bodyOf fn_F110) [0]) (LSh.told F110_L5_sh 0 (F110_L5_step)) :=
  loop_ok (E := F110_E) (F110_Eok) (told := F110_told) (l := F110_L5_sh) (step := F110_L5_step) (loopsOK_of (ls := []) (by kernel_rfl) trivial) (by kernel_rfl) (fun v => by kernel_rfl)
theorem F110_ok : FOK Tryz.prog n_F110 F110_sh F110_fo F110 :=
  fn_ok (E := F110_E) (F110_Eok) (told := F110_told) (fl := []) (c := bodyOf fn_F110) (s := F110_sh) (l := F110_fo) (tree := F110_t) fnat_F110 (by kernel_rfl) (by kernel_rfl) (by kernel_rfl) (loopsOK_of (ls := [loopAt (bodyOf fn_F110) [0]]) (by kernel_rfl) ⟨.inr ⟨_, by kernel_rfl, F110_L5_ok⟩, trivial⟩) (fun v => by kernel_rfl)

theorem F110_eq (p : List Int) (hl : p.length < 4611686018427387904) : F110 p = some (((), (solR p).1), (solR p).2) := by
  rw [F110, F110_t, T.run_sub, F101_eq p hl, Option.bind_some, T.run_test]
  unfold solR
  cases hp : isPz p with
  | false => simp [T.run]
  | true =>
    have hpl := isPz_len hp
    have hq := allQ_len p.length hpl.2
    have key : ∀ (t : List (List Int)), t.length ≤ 134217728 → ∀ m k (s : List (List Int)), k + m = t.length → s.length ≤ k → F110_L5 (((), ((), ((), ((t.length : Int), (k : Int))))), (p, (s, t))) = some ((), s ++ (t.drop k).filter (fits p)) := by
      intro t ht m
      induction m with
      | zero =>
        intro k s hk hs
        have : k = t.length := by omega
        subst this
        rw [List.drop_length, List.filter_nil, List.append_nil]
        simp only [F110_L5]
        exact loopO_done (by simp [F110_L5_step, T.run])
      | succ m ih =>
        intro k s hk hs
        have hlt : k < t.length := by omega
        have hds := List.getElem?_eq_getElem hlt
        have c0 : (k : Int) < (t.length : Int) := by omega
        have c1 : (0 : Int) ≤ (k : Int) ∧ (k : Int) < (t.length : Int) := by omega
        have w1 : w64 ((k : Int) + 1) = ((k + 1 : Nat) : Int) := by rw [w64_id (by omega) (by omega)]; omega
        have c2 : 2 * ((s.length + 1) * 25) ≤ 140737488355328 := by omega
        have hidx : t[0 + (k : Int).toNat]? = some t[k] := by rw [Int.toNat_natCast, Nat.zero_add]; exact hds
        have hff := F103_eq p t[k] hl
        rw [List.drop_eq_getElem_cons hlt, List.filter_cons]
        cases hf : fits p t[k] with
        | true =>
          have ih := ih (k + 1) (s ++ [t[k]]) (by omega) (by simp; omega)
          have e : s ++ t[k] :: (t.drop (k + 1)).filter (fits p) = s ++ [t[k]] ++ (t.drop (k + 1)).filter (fits p) := by simp
          simp only [if_true]
          rw [e]
          simp only [F110_L5] at ih ⊢
          rw [← ih]
          refine loopO_next ?_
          rw [hf] at hff
          have hone : win (List.set (List.replicate 1 ([] : List Int)) 0 t[k]) 0 1 = [t[k]] := rfl
          simp only [F110_L5_step, T.run_test, T.run_sub, T.run_ret, T.run_fail]
          rw [if_pos (decide_eq_true c0), if_pos (decide_eq_true c1), hidx, Option.bind_some, hff, Option.bind_some, if_pos rfl]
          simp only [Nat.zero_add, Nat.le_refl, win_all, hone, List.length_cons, List.length_nil, List.length_set, List.length_replicate, c2, w1, List.length_append, decide_true, if_true, and_self]
        | false =>
          have ih := ih (k + 1) s (by omega) (by omega)
          simp only [Bool.false_eq_true, if_false]
          simp only [F110_L5] at ih ⊢
          rw [← ih]
          refine loopO_next ?_
          rw [hf] at hff
          simp only [F110_L5_step, T.run_test, T.run_sub, T.run_ret, T.run_fail]
          rw [if_pos (decide_eq_true c0), if_pos (decide_eq_true c1), hidx, Option.bind_some, hff, Option.bind_some, if_neg Bool.false_ne_true]
          simp only [w1, decide_true, if_true, and_self]
    have h5 := key (allQ p.length) hq (allQ p.length).length 0 [] (by omega) (by simp)
    rw [List.drop_zero, List.nil_append, Int.natCast_zero] at h5
    have hsl : (allQ p.length).filter (fits p) = solL p := rfl
    rw [hsl] at h5
    rw [if_neg (by simp), T.run_sub, F58_eq p.length hpl, Option.bind_some, T.run_test, if_pos (by simp), T.run_test, if_pos (by simp), T.run_sub, h5, Option.bind_some]
    generalize solL p = r
    simp only [T.run_test, T.run_ret, T.run_fail]
    by_cases h3 : r.length ≤ 300
    · have c : ¬ ((r.length : Int) > 300) := by omega
      simp [c, h3]
    · have c : (r.length : Int) > 300 := by omega
      simp [c, h3]


def F59_sh : FSh := ⟨[(.ag [(.sl (.int .i64) false false)])], []⟩

def F59_L6_sh : LSh := ⟨(fun ex => match ex with | .norm => [(2, none), (6, none), (30, none), (31, none), (32, none)] | .exit i => if i = 0 then [(2, none), (6, none)] else [] | .ret => [(2, none), (3, none)]), [(2, (.one (.pf 0 0 0))), (6, (.one (.pf 1 0 0))), (30, (.one (.sl (.int .i64) false false))), (31, (.one (.si .i64))), (32, (.one (.si .i64)))], [(.rcd 0 [(.nl true true)]), (.rcd 0 [(.rw 2 0)]), (.row 0 (.int .i64))], [⟨(.exit 0), [(2, (.one (.pf 0 0 0))), (6, (.one (.pf 1 0 0)))], [(.rcd 0 [(.nl true true)]), (.rcd 0 [(.rw 2 0)]), (.row 0 (.int .i64))]⟩], [], []⟩
noncomputable def F59_L6_step : ((Unit × Unit × List (Int) × Int × Int) × (Unit × Unit × List (Int))) → T (((Unit × Unit × List (Int) × Int × Int) × (Unit × Unit × List (Int))) ⊕ ((Unit × Unit) × (Unit × Unit × List (Int)))) := fun (((), (), t30, t31, t32), ((), (), out_r)) =>
 (.test (decide (t32 < t31))
 (.test (decide ((0 ≤ t32) ∧ (t32 < ((List.length t30) : Int))))
 (.sub (t30[(Int.toNat t32)]?) fun z0 =>
 (.test (z0 == 0)
 (.test (decide ((0 = 0) ∧ ((List.length out_r) = (List.length out_r))))
 (.ret (Sum.inl (((), ((), (t30, (t31, (w64 (t32 + 1)))))), ((), ((), out_r)))))
 .fail)
 (.test (decide ((0 + (List.length out_r)) ≤ (List.length out_r)))
 (.sub (F107 ((win out_r 0 (List.length out_r)), (t32, (0 : Int)))) fun z1 =>
 (.test (decide ((0 + (List.length z1.2)) ≤ (List.length z1.2)))
 (.sub (F110 (win z1.2 0 (List.length z1.2))) fun z2 =>
 (.test z2.1.2
 (.test (((List.length z2.2) : Int) == 1)
 (.test (decide ((0 = 0) ∧ ((List.length z1.2) = (List.length z1.2))))
 (.ret (Sum.inl (((), ((), (t30, (t31, (w64 (t32 + 1)))))), ((), ((), z1.2)))))
 .fail)
 (.test (decide ((0 = 0) ∧ ((List.length out_r) = (List.length out_r))))
 (.ret (Sum.inl (((), ((), (t30, (t31, (w64 (t32 + 1)))))), ((), ((), out_r)))))
 .fail))
 (.test (decide ((0 = 0) ∧ ((List.length out_r) = (List.length out_r))))
 (.ret (Sum.inl (((), ((), (t30, (t31, (w64 (t32 + 1)))))), ((), ((), out_r)))))
 .fail)))
 .fail))
 .fail)))
 .fail)
 (.test (decide ((0 = 0) ∧ ((List.length out_r) = (List.length out_r))))
 (.ret (Sum.inr (((), ()), ((), ((), out_r)))))
 .fail))
noncomputable def F59_L6 (v : ((Unit × Unit × List (Int) × Int × Int) × (Unit × Unit × List (Int)))) : Option ((Unit × Unit) × (Unit × Unit × List (Int))) := loopO (fun v => (F59_L6_step v).run) v

def F59_w_fo : List FO := [⟨[(.ag [(.nl true true)]), (.one .sb)], []⟩, ⟨[(.ag [(.rw 0 0)]), (.one .sb)], [(.row 0 (.int .i64))]⟩]
noncomputable def F59_t : List (Int) → T ((Unit × Bool) ⊕ ((Unit × Bool) × List (Int))) := fun p_0 =>
 (.sub (F110 p_0) fun z0 =>
 (.test (! z0.1.2)
 (.ret (Sum.inl ((), false)))
 (.test (((List.length z0.2) : Int) != 1)
 (.ret (Sum.inl ((), false)))
 (.sub (F106 p_0) fun z1 =>
 (.test (decide ((0 = 0) ∧ ((List.length z1.2) = (List.length z1.2))))
 (.sub (F59_L6 (((), ((), (p_0, (((List.length p_0) : Int), (0 : Int))))), ((), ((), z1.2)))) fun z2 =>
 (.test (decide ((0 = 0) ∧ ((List.length z2.2.2.2) = (List.length z2.2.2.2))))
 (.ret (Sum.inr (((), true), z2.2.2.2)))
 .fail))
 .fail)))))
noncomputable def F59_w (v : List (Int)) : Option ((Unit × Bool) ⊕ ((Unit × Bool) × List (Int))) := (F59_t v).run
noncomputable def F59_E : TEnv := (((E0.add1 n_F110 F110_sh F110_fo F110).add1 n_F106 F106_sh F106_fo F106).add1 n_F107 F107_sh F107_fo F107)
theorem F59_Eok : (F59_E).OK := (((E0ok.add1 F110_ok).add1 F106_ok).add1 F107_ok)
noncomputable def F59_told : Nat → Option SealT := fun id => if id = 6 then some (LSh.told F59_L6_sh 0 (F59_L6_step)) else none
theorem F59_L6_ok : ToldOK Tryz.prog 0 (loopAt (bodyOf fn_F59) [0]) (LSh.told F59_L6_sh 0 (F59_L6_step)) :=
  loop_ok (E := F59_E) (F59_Eok) (told := F59_told) (l := F59_L6_sh) (step := F59_L6_step) (loopsOK_of (ls := []) (by kernel_rfl) trivial) (by kernel_rfl) (fun v => by kernel_rfl)
theorem F59_w_ok : FOK Tryz.prog n_F59 F59_sh F59_w_fo F59_w :=
  fn_ok (E := F59_E) (F59_Eok) (told := F59_told) (fl := []) (c := bodyOf fn_F59) (s := F59_sh) (l := F59_w_fo) (tree := F59_t) fnat_F59 (by kernel_rfl) (by kernel_rfl) (by kernel_rfl) (loopsOK_of (ls := [loopAt (bodyOf fn_F59) [0]]) (by kernel_rfl) ⟨.inr ⟨_, by kernel_rfl, F59_L6_ok⟩, trivial⟩) (fun v => by kernel_rfl)
def F59_fo : List FO := [⟨[(.ag [(.rw 0 0)]), (.one .sb)], [(.row 0 (.int .i64))]⟩]
def F59_m : ((Unit × Bool) ⊕ ((Unit × Bool) × List (Int))) → ((Unit × Bool) × List (Int)) := fun o => match o with | (.inl a) => (a, []) | (.inr x) => x
noncomputable def F59 (v : List (Int)) : Option ((Unit × Bool) × List (Int)) := (F59_w v).map F59_m
theorem F59_ok : FOK Tryz.prog n_F59 F59_sh F59_fo F59 :=
  FOK.own (l' := F59_fo) F59_w_ok F59_m [(.int .i64)] (by decide) (fun o => match o with | (.inl a) => .inr (by kernel_rfl) | (.inr x) => .inl (by kernel_rfl))

theorem pzAll_s (p : List Int) (hp : isPz p = true) : F110 p = if (solL p).length ≤ 300 then some (((), true), solL p) else some (((), false), []) := by
  have hpl := isPz_len hp
  rw [F110_eq p (by omega)]
  unfold solR
  rw [if_pos hp]
  split <;> rfl
theorem F59_loop (p : List Int) (hp : isPz p = true) (h1 : (solL p).length = 1) : F59_L6 (((), ((), (p, ((p.length : Int), (0 : Int))))), ((), ((), p))) = some (((), ()), ((), ((), (List.range p.length).foldl hardS p))) := by
  have hpl := isPz_len hp
  have h := loop_fold (step := fun v => (F59_L6_step v).run) (xs := List.range p.length) (fun k (o : List Int) => o.length = p.length ∧ isPz o = true ∧ ∀ j, k ≤ j → o.getD j 0 = p.getD j 0) (fun k o => (((), ((), (p, ((p.length : Int), (k : Int))))), ((), ((), o)))) hardS (fun o => (((), ()), ((), ((), o))))
    (fun k o x hP hx => by
      obtain ⟨hk, e⟩ := List.getElem?_eq_some_iff.1 hx
      simp only [List.getElem_range] at e
      subst e
      rw [List.length_range] at hk
      obtain ⟨hl, hz, ho⟩ := hP
      refine ⟨?_, by rw [hardS_len, hl], hardS_pz hz k, fun j hj => by rw [hardS_other o (by omega), ho j (by omega)]⟩
      have c0 : (k : Int) < (p.length : Int) := by omega
      have c1 : (0 : Int) ≤ (k : Int) ∧ (k : Int) < (p.length : Int) := by omega
      have w1 : w64 ((k : Int) + 1) = ((k + 1 : Nat) : Int) := by rw [w64_id (by omega) (by omega)]; omega
      have g1 := set_getD (l := p) (p := k) hk
      simp only [F59_L6_step]
      rw [T.run_test, if_pos (decide_eq_true c0), T.run_test, if_pos (decide_eq_true c1), T.run_sub, Int.toNat_natCast, g1, Option.bind_some, T.run_test]
      by_cases hg : p.getD k 0 = 0
      · rw [if_pos (by rw [hg]; rfl), T.run_test, if_pos (by simp), T.run_ret, w1, hardS_gap (by rw [ho k (Nat.le_refl _), hg])]
      · have hw := F107_eq o (k : Int) 0 (by omega) (by omega) (by omega)
        rw [Int.toNat_natCast] at hw
        have hs := pzAll_s (o.set k 0) (isPz_set hz k)
        rw [if_neg (by rw [beq_iff_eq]; exact hg), T.run_test, if_pos (by simp), T.run_sub, win_all, hw, Option.bind_some, T.run_test, if_pos (by simp), T.run_sub, win_all, hs]
        unfold hardS
        by_cases h3 : (solL (o.set k 0)).length ≤ 300
        · rw [if_pos h3, Option.bind_some, T.run_test, if_pos rfl, T.run_test]
          by_cases h1 : (solL (o.set k 0)).length = 1
          · rw [if_pos h1, if_pos (by simp only; rw [h1]; rfl), T.run_test, if_pos (by simp), T.run_ret, w1]
          · rw [if_neg h1, if_neg (by simp only; rw [beq_iff_eq]; omega), T.run_test, if_pos (by simp), T.run_ret, w1]
        · rw [if_neg h3, Option.bind_some, T.run_test, if_neg (by simp), T.run_test, if_pos (by simp), T.run_ret, w1, if_neg (by omega)])
    (fun o hs => by simp [F59_L6_step, T.run])
    p ⟨rfl, hp, fun _ _ => rfl⟩
  simp only [Int.natCast_zero] at h
  simp only [F59_L6]
  exact h.1
theorem F59_eq (p : List Int) (hl : p.length < 4611686018427387904) : F59 p = some (((), (hardR p).1), (hardR p).2) := by
  unfold F59 F59_w hardR
  rw [F59_t, T.run_sub]
  cases hp : isPz p with
  | false =>
    have : F110 p = some (((), false), []) := by rw [F110_eq p hl]; unfold solR; rw [if_neg (by simp [hp])]
    rw [this]
    simp [T.run, F59_m]
  | true =>
    have hpl := isPz_len hp
    rw [pzAll_s p hp]
    by_cases h1 : (solL p).length = 1
    · have e1 : (((solL p).length : Int) != 1) = false := by rw [h1]; rfl
      have e2 : ((solL p).length == 1) = true := by rw [h1]; rfl
      have ho : F106 p = some ((), p) := F106_eq p (by omega)
      rw [if_pos (by omega), Option.bind_some, T.run_test, if_neg (by simp), T.run_test]
      simp only [e1, e2]
      rw [if_neg (by simp), T.run_sub, ho, Option.bind_some, T.run_test, if_pos (by simp), T.run_sub, F59_loop p hp h1, Option.bind_some, T.run_test, if_pos (by simp), T.run_ret]
      rfl
    · have e1 : (((solL p).length : Int) != 1) = true := by rw [bne_iff_ne]; omega
      have e2 : ((solL p).length == 1) = false := by rw [beq_eq_false_iff_ne]; exact h1
      rw [e2]
      split
      · rw [Option.bind_some, T.run_test, if_neg (by simp), T.run_test]
        simp only [e1]
        rw [if_pos trivial, T.run_ret]
        rfl
      · rw [Option.bind_some, T.run_test, if_pos (by simp), T.run_ret]
        rfl


def F104_sh : FSh := ⟨[(.one (.sl (.list true (.int .i64)) false false)), (.one (.sl (.list true (.int .i64)) false false))], []⟩

def F104_L4_sh : LSh := ⟨(fun ex => match ex with | .norm => [(0, none), (1, none), (12, none), (13, none)] | .exit i => if i = 0 then [] else [] | .ret => [(4, none)]), [(0, (.one (.sl (.list true (.int .i64)) false false))), (1, (.one (.sl (.list true (.int .i64)) false false))), (12, (.one (.si .i64))), (13, (.one (.si .i64)))], [], [⟨.ret, [(4, (.one .sb))], []⟩, ⟨(.exit 0), [], []⟩], [], []⟩
noncomputable def F104_L4_step : (List (List (Int)) × List (List (Int)) × Int × Int) → T ((List (List (Int)) × List (List (Int)) × Int × Int) ⊕ (Bool ⊕ Unit)) := fun (a, b, t12, t13) =>
 (.test (decide (t13 < t12))
 (.test (decide ((0 ≤ t13) ∧ (t13 < ((List.length a) : Int))))
 (.sub (a[(Int.toNat t13)]?) fun z0 =>
 (.test (decide ((0 ≤ t13) ∧ (t13 < ((List.length b) : Int))))
 (.sub (b[(Int.toNat t13)]?) fun z1 =>
 (.sub (F108 (z0, z1)) fun z2 =>
 (.test (! z2)
 (.ret (Sum.inr (Sum.inl false)))
 (.ret (Sum.inl (a, (b, (t12, (w64 (t13 + 1))))))))))
 .fail))
 .fail)
 (.ret (Sum.inr (Sum.inr ()))))
noncomputable def F104_L4 (v : (List (List (Int)) × List (List (Int)) × Int × Int)) : Option (Bool ⊕ Unit) := loopO (fun v => (F104_L4_step v).run) v

def F104_fo : List FO := [⟨[(.one .sb)], []⟩]
noncomputable def F104_t : (List (List (Int)) × List (List (Int))) → T Bool := fun (a, b) =>
 (.test (((List.length a) : Int) != ((List.length b) : Int))
 (.ret false)
 (.sub (F104_L4 (a, (b, (((List.length a) : Int), (0 : Int))))) fun z0 =>
 (.test (Sum.isLeft z0)
 (.sub (Sum.getLeft? z0) fun z1 =>
 (.ret z1))
 (.sub (Sum.getRight? z0) fun z2 =>
 (.ret true)))))
noncomputable def F104 (v : (List (List (Int)) × List (List (Int)))) : Option Bool := (F104_t v).run
noncomputable def F104_E : TEnv := (E0.add1 n_F108 F108_sh F108_fo F108)
theorem F104_Eok : (F104_E).OK := (E0ok.add1 F108_ok)
noncomputable def F104_told : Nat → Option SealT := fun id => if id = 4 then some (LSh.told F104_L4_sh 0 (F104_L4_step)) else none
theorem F104_L4_ok : ToldOK Tryz.prog 0 (loopAt (bodyOf fn_F104) [0]) (LSh.told F104_L4_sh 0 (F104_L4_step)) :=
  loop_ok (E := F104_E) (F104_Eok) (told := F104_told) (l := F104_L4_sh) (step := F104_L4_step) (loopsOK_of (ls := []) (by kernel_rfl) trivial) (by kernel_rfl) (fun v => by kernel_rfl)
theorem F104_ok : FOK Tryz.prog n_F104 F104_sh F104_fo F104 :=
  fn_ok (E := F104_E) (F104_Eok) (told := F104_told) (fl := []) (c := bodyOf fn_F104) (s := F104_sh) (l := F104_fo) (tree := F104_t) fnat_F104 (by kernel_rfl) (by kernel_rfl) (by kernel_rfl) (loopsOK_of (ls := [loopAt (bodyOf fn_F104) [0]]) (by kernel_rfl) ⟨.inr ⟨_, by kernel_rfl, F104_L4_ok⟩, trivial⟩) (fun v => by kernel_rfl)

theorem F104_self (a : List (List Int)) (hl : a.length < 1000000) (hr : ∀ r ∈ a, r.length < 1000000) : F104 (a, a) = some true := by
  have key : ∀ m k, k + m = a.length → F104_L4 (a, (a, ((a.length : Int), (k : Int)))) = some (.inr ()) := by
    intro m
    induction m with
    | zero =>
      intro k hk
      simp only [F104_L4]
      refine loopO_done ?_
      rw [F104_L4_step, T.run_test, if_neg (by rw [decide_eq_true_eq]; omega), T.run_ret]
    | succ m ih =>
      intro k hk
      have hlt : k < a.length := by omega
      have w1 : w64 ((k : Int) + 1) = ((k + 1 : Nat) : Int) := by rw [w64_id (by omega) (by omega)]; omega
      have hg : a[k]? = some a[k] := List.getElem?_eq_getElem _
      have hs := dSame_val a[k] a[k] (by have := hr _ (List.getElem_mem hlt); omega)
      have := ih (k + 1) (by omega)
      simp only [F104_L4] at this ⊢
      rw [← this]
      refine loopO_next ?_
      rw [F104_L4_step, T.run_test, if_pos (decide_eq_true (by omega)), T.run_test, if_pos (decide_eq_true (by omega)), T.run_sub, Int.toNat_natCast, hg, Option.bind_some, T.run_test, if_pos (decide_eq_true (by omega)), T.run_sub, Option.bind_some, T.run_sub, hs, Option.bind_some, T.run_test, if_neg (by simp), T.run_ret, w1]
  have h := key a.length 0 (by omega)
  rw [Int.natCast_zero] at h
  rw [F104, F104_t, T.run_test, if_neg (by simp), T.run_sub, h, Option.bind_some]
  rfl


def F47_sh : FSh := ⟨[(.ag [(.sl (.int .i64) false false)]), (.one (.si .i64))], []⟩

def F47_fo : List FO := [⟨[(.one .sb)], []⟩]
noncomputable def F47_t : (List (Int) × Int) → T Bool := fun (p_0, at') =>
 (.sub (F87 p_0) fun z0 =>
 (.test z0
 (.sub (F98 (at', ((0 : Int), (w64 (((List.length p_0) : Int) - 1))))) fun z1 =>
 (.ret z1))
 (.ret false)))
noncomputable def F47 (v : (List (Int) × Int)) : Option Bool := (F47_t v).run
noncomputable def F47_E : TEnv := ((E0.add1 n_F87 F87_sh F87_fo F87).add1 n_F98 F98_sh F98_fo F98)
theorem F47_Eok : (F47_E).OK := ((E0ok.add1 F87_ok).add1 F98_ok)
noncomputable def F47_told : Nat → Option SealT := fun id => none
theorem F47_ok : FOK Tryz.prog n_F47 F47_sh F47_fo F47 :=
  fn_ok (E := F47_E) (F47_Eok) (told := F47_told) (fl := []) (c := bodyOf fn_F47) (s := F47_sh) (l := F47_fo) (tree := F47_t) fnat_F47 (by kernel_rfl) (by kernel_rfl) (by kernel_rfl) (loopsOK_of (ls := []) (by kernel_rfl) trivial) (fun v => by kernel_rfl)

theorem F47_eq (l : List Int) (at' : Int) (hl : l.length < 4611686018427387904) : F47 (l, at') = some (isPz l && inB 0 ((l.length : Int) - 1) at') := by
  simp only [F47, F47_t, T.run, F87_eq l hl, Option.bind_some, F98_eq]
  rw [w64_id (z := (l.length : Int) - 1) (by omega) (by omega)]
  cases isPz l <;> simp


def F94_sh : FSh := ⟨[(.ag [(.sl (.int .i64) false false)]), (.one (.si .i64))], []⟩

def F94_w_fo : List FO := [⟨[(.ag [(.nl true true)]), (.one .sb)], []⟩, ⟨[(.ag [(.rw 0 0)]), (.one .sb)], [(.row 0 (.int .i64))]⟩]
noncomputable def F94_t : (List (Int) × Int) → T ((Unit × Bool) ⊕ ((Unit × Bool) × List (Int))) := fun (p_0, at') =>
 (.sub (F47 (p_0, at')) fun z0 =>
 (.test (! z0)
 (.ret (Sum.inl ((), false)))
 (.test (decide ((0 ≤ at') ∧ (at' < ((List.length p_0) : Int))))
 (.sub (p_0[(Int.toNat at')]?) fun z1 =>
 (.test (z1 == 0)
 (.ret (Sum.inl ((), false)))
 (.sub (F64 (p_0, (at', (0 : Int)))) fun z2 =>
 (.test (decide ((0 = 0) ∧ ((List.length z2.2) = (List.length z2.2))))
 (.ret (Sum.inr (((), true), z2.2)))
 .fail))))
 .fail)))
noncomputable def F94_w (v : (List (Int) × Int)) : Option ((Unit × Bool) ⊕ ((Unit × Bool) × List (Int))) := (F94_t v).run
noncomputable def F94_E : TEnv := ((E0.add1 n_F47 F47_sh F47_fo F47).add1 n_F64 F64_sh F64_fo F64)
theorem F94_Eok : (F94_E).OK := ((E0ok.add1 F47_ok).add1 F64_ok)
noncomputable def F94_told : Nat → Option SealT := fun id => none
theorem F94_w_ok : FOK Tryz.prog n_F94 F94_sh F94_w_fo F94_w :=
  fn_ok (E := F94_E) (F94_Eok) (told := F94_told) (fl := []) (c := bodyOf fn_F94) (s := F94_sh) (l := F94_w_fo) (tree := F94_t) fnat_F94 (by kernel_rfl) (by kernel_rfl) (by kernel_rfl) (loopsOK_of (ls := []) (by kernel_rfl) trivial) (fun v => by kernel_rfl)
def F94_fo : List FO := [⟨[(.ag [(.rw 0 0)]), (.one .sb)], [(.row 0 (.int .i64))]⟩]
def F94_m : ((Unit × Bool) ⊕ ((Unit × Bool) × List (Int))) → ((Unit × Bool) × List (Int)) := fun o => match o with | (.inl a) => (a, []) | (.inr x) => x
noncomputable def F94 (v : (List (Int) × Int)) : Option ((Unit × Bool) × List (Int)) := (F94_w v).map F94_m
theorem F94_ok : FOK Tryz.prog n_F94 F94_sh F94_fo F94 :=
  FOK.own (l' := F94_fo) F94_w_ok F94_m [(.int .i64)] (by decide) (fun o => match o with | (.inl a) => .inr (by kernel_rfl) | (.inr x) => .inl (by kernel_rfl))

theorem F94_eq (l : List Int) (at' : Int) (hl : l.length < 4611686018427387904) : F94 (l, at') = some (((), (openG l at').1), (openG l at').2) := by
  simp only [F94, F94_w, F94_t, T.run, F47_eq l at' hl, F98_eq, Option.bind_some, openG]
  cases hp : isPz l with
  | false => simp [F94_m]
  | true =>
    cases ha : inB 0 ((l.length : Int) - 1) at' with
    | false => simp [F94_m]
    | true =>
      rw [inB_iff] at ha
      have h1 : 0 ≤ at' := by omega
      have h2 : at' < l.length := by omega
      have h3 : at'.toNat < l.length := by omega
      have h5 := isPz_len hp
      rw [List.getElem?_eq_getElem h3]
      by_cases h0 : l[at'.toNat] = 0
      · simp [h1, h2, h0, F94_m]
      · simp [h1, h2, h0, F64_eq l at' 0 (by omega) h1 h2, F94_m]


def F65_sh : FSh := ⟨[(.one (.sl (.int .u8) false true))], []⟩

def F65_fo : List FO := [⟨[(.ag [(.rw 0 0)]), (.one (.si .i64)), (.one (.si .i64))], [(.row 0 (.int .i64))]⟩]
noncomputable def F65_t : List (Int) → T ((Unit × Int × Int) × List (Int)) := fun code =>
 (.sub (F55 ((), (code, ((0 : Int), (0 : Int))))) fun z0 =>
 (.sub (F68 (((), (w64 (((List.length z0.2.2) : Int) + 2))), (z0.2.1.1, (z0.2.1.2.1, z0.2.1.2.2)))) fun z1 =>
 (.sub (F68 (((), ((List.length z0.2.2) : Int)), (z1.2.1, (z1.2.2.1, z1.2.2.2)))) fun z2 =>
 (.test (decide ((0 = 0) ∧ ((List.length z0.2.2) = (List.length z0.2.2))))
 (.ret (((), ((w64 (z1.1 - 1)), z2.1)), z0.2.2))
 .fail))))
noncomputable def F65 (v : List (Int)) : Option ((Unit × Int × Int) × List (Int)) := (F65_t v).run
noncomputable def F65_E : TEnv := ((E0.add1 n_F55 F55_sh F55_fo F55).add1 n_F68 F68_sh F68_fo F68)
theorem F65_Eok : (F65_E).OK := ((E0ok.add1 F55_ok).add1 F68_ok)
noncomputable def F65_told : Nat → Option SealT := fun id => none
theorem F65_ok : FOK Tryz.prog n_F65 F65_sh F65_fo F65 :=
  fn_ok (E := F65_E) (F65_Eok) (told := F65_told) (fl := []) (c := bodyOf fn_F65) (s := F65_sh) (l := F65_fo) (tree := F65_t) fnat_F65 (by kernel_rfl) (by kernel_rfl) (by kernel_rfl) (loopsOK_of (ls := []) (by kernel_rfl) trivial) (fun v => by kernel_rfl)

def F95_sh : FSh := ⟨[(.ag [(.sl (.int .i64) false false)]), (.one (.si .i64)), (.one (.si .i64))], []⟩

def F95_w_fo : List FO := [⟨[(.ag [(.nl true true)]), (.one .sb)], []⟩, ⟨[(.ag [(.rw 0 0)]), (.one .sb)], [(.row 0 (.int .i64))]⟩]
noncomputable def F95_t : (List (Int) × Int × Int) → T ((Unit × Bool) ⊕ ((Unit × Bool) × List (Int))) := fun (p_0, at', number) =>
 (.sub (F47 (p_0, at')) fun z0 =>
 (.test (! z0)
 (.ret (Sum.inl ((), false)))
 (.sub (F98 (number, ((1 : Int), (w64 (((List.length p_0) : Int) - 2))))) fun z1 =>
 (.test (! z1)
 (.ret (Sum.inl ((), false)))
 (.test (decide ((0 ≤ at') ∧ (at' < ((List.length p_0) : Int))))
 (.sub (p_0[(Int.toNat at')]?) fun z2 =>
 (.test (z2 != 0)
 (.ret (Sum.inl ((), false)))
 (.sub (F64 (p_0, (at', number))) fun z3 =>
 (.test (decide ((0 = 0) ∧ ((List.length z3.2) = (List.length z3.2))))
 (.ret (Sum.inr (((), true), z3.2)))
 .fail))))
 .fail)))))
noncomputable def F95_w (v : (List (Int) × Int × Int)) : Option ((Unit × Bool) ⊕ ((Unit × Bool) × List (Int))) := (F95_t v).run
noncomputable def F95_E : TEnv := (((E0.add1 n_F47 F47_sh F47_fo F47).add1 n_F98 F98_sh F98_fo F98).add1 n_F64 F64_sh F64_fo F64)
theorem F95_Eok : (F95_E).OK := (((E0ok.add1 F47_ok).add1 F98_ok).add1 F64_ok)
noncomputable def F95_told : Nat → Option SealT := fun id => none
theorem F95_w_ok : FOK Tryz.prog n_F95 F95_sh F95_w_fo F95_w :=
  fn_ok (E := F95_E) (F95_Eok) (told := F95_told) (fl := []) (c := bodyOf fn_F95) (s := F95_sh) (l := F95_w_fo) (tree := F95_t) fnat_F95 (by kernel_rfl) (by kernel_rfl) (by kernel_rfl) (loopsOK_of (ls := []) (by kernel_rfl) trivial) (fun v => by kernel_rfl)
def F95_fo : List FO := [⟨[(.ag [(.rw 0 0)]), (.one .sb)], [(.row 0 (.int .i64))]⟩]
def F95_m : ((Unit × Bool) ⊕ ((Unit × Bool) × List (Int))) → ((Unit × Bool) × List (Int)) := fun o => match o with | (.inl a) => (a, []) | (.inr x) => x
noncomputable def F95 (v : (List (Int) × Int × Int)) : Option ((Unit × Bool) × List (Int)) := (F95_w v).map F95_m
theorem F95_ok : FOK Tryz.prog n_F95 F95_sh F95_fo F95 :=
  FOK.own (l' := F95_fo) F95_w_ok F95_m [(.int .i64)] (by decide) (fun o => match o with | (.inl a) => .inr (by kernel_rfl) | (.inr x) => .inl (by kernel_rfl))

theorem fill_facts {l : List Int} {at' : Int} (hp : isPz l = true) (ha : inB 0 ((l.length : Int) - 1) at' = true) : 0 ≤ at' ∧ at' < l.length ∧ ∃ h : at'.toNat < l.length, l[at'.toNat]? = some l[at'.toNat] := by
  rw [inB_iff] at ha
  exact ⟨by omega, by omega, by omega, List.getElem?_eq_getElem _⟩
theorem F95_eq (l : List Int) (at' n : Int) (hl : l.length < 4611686018427387904) : F95 (l, at', n) = some (((), (fillG l at' n).1), (fillG l at' n).2) := by
  simp only [F95, F95_w, F95_t, T.run, F47_eq l at' hl, F98_eq, Option.bind_some, fillG]
  rw [w64_id (z := (l.length : Int) - 2) (by omega) (by omega)]
  cases hp : isPz l with
  | false => simp [F95_m]
  | true =>
    cases ha : inB 0 ((l.length : Int) - 1) at' with
    | false => simp [F95_m]
    | true =>
      cases hn : inB 1 ((l.length : Int) - 2) n with
      | false => simp [F95_m]
      | true =>
        obtain ⟨h1, h2, h3, h4⟩ := fill_facts hp ha
        have h5 := isPz_len hp
        rw [h4]
        by_cases h0 : l[at'.toNat] = 0
        · simp [h1, h2, h0, F64_eq l at' n (by omega) h1 h2, F95_m]
        · simp [h1, h2, h0, F95_m]


def F96_sh : FSh := ⟨[(.ag [(.sl (.int .i64) false false)]), (.one (.si .i64)), (.one (.si .i64))], []⟩

def F96_w_fo : List FO := [⟨[(.ag [(.nl true true)]), (.one .sb)], []⟩, ⟨[(.ag [(.rw 0 0)]), (.one .sb)], [(.row 0 (.int .i64))]⟩]
noncomputable def F96_t : (List (Int) × Int × Int) → T ((Unit × Bool) ⊕ ((Unit × Bool) × List (Int))) := fun (p_0, at', number) =>
 (.sub (F101 p_0) fun z0 =>
 (.test (! z0)
 (.ret (Sum.inl ((), false)))
 (.sub (F114 (at', ((0 : Int), (w64 (((List.length p_0) : Int) - 1))))) fun z1 =>
 (.test (! z1)
 (.ret (Sum.inl ((), false)))
 (.sub (F114 (number, ((1 : Int), (w64 (((List.length p_0) : Int) - 2))))) fun z2 =>
 (.test (! z2)
 (.ret (Sum.inl ((), false)))
 (.test (decide ((0 ≤ at') ∧ (at' < ((List.length p_0) : Int))))
 (.sub (p_0[(Int.toNat at')]?) fun z3 =>
 (.test (z3 != 0)
 (.ret (Sum.inl ((), false)))
 (.sub (F107 (p_0, (at', number))) fun z4 =>
 (.test (decide ((0 = 0) ∧ ((List.length z4.2) = (List.length z4.2))))
 (.ret (Sum.inr (((), true), z4.2)))
 .fail))))
 .fail)))))))
noncomputable def F96_w (v : (List (Int) × Int × Int)) : Option ((Unit × Bool) ⊕ ((Unit × Bool) × List (Int))) := (F96_t v).run
noncomputable def F96_E : TEnv := (((E0.add1 n_F101 F101_sh F101_fo F101).add1 n_F114 F114_sh F114_fo F114).add1 n_F107 F107_sh F107_fo F107)
theorem F96_Eok : (F96_E).OK := (((E0ok.add1 F101_ok).add1 F114_ok).add1 F107_ok)
noncomputable def F96_told : Nat → Option SealT := fun id => none
theorem F96_w_ok : FOK Tryz.prog n_F96 F96_sh F96_w_fo F96_w :=
  fn_ok (E := F96_E) (F96_Eok) (told := F96_told) (fl := []) (c := bodyOf fn_F96) (s := F96_sh) (l := F96_w_fo) (tree := F96_t) fnat_F96 (by kernel_rfl) (by kernel_rfl) (by kernel_rfl) (loopsOK_of (ls := []) (by kernel_rfl) trivial) (fun v => by kernel_rfl)
def F96_fo : List FO := [⟨[(.ag [(.rw 0 0)]), (.one .sb)], [(.row 0 (.int .i64))]⟩]
def F96_m : ((Unit × Bool) ⊕ ((Unit × Bool) × List (Int))) → ((Unit × Bool) × List (Int)) := fun o => match o with | (.inl a) => (a, []) | (.inr x) => x
noncomputable def F96 (v : (List (Int) × Int × Int)) : Option ((Unit × Bool) × List (Int)) := (F96_w v).map F96_m
theorem F96_ok : FOK Tryz.prog n_F96 F96_sh F96_fo F96 :=
  FOK.own (l' := F96_fo) F96_w_ok F96_m [(.int .i64)] (by decide) (fun o => match o with | (.inl a) => .inr (by kernel_rfl) | (.inr x) => .inl (by kernel_rfl))

theorem F96_eq (l : List Int) (at' n : Int) (hl : l.length < 4611686018427387904) : F96 (l, at', n) = some (((), (fillG l at' n).1), (fillG l at' n).2) := by
  simp only [F96, F96_w, F96_t, T.run, F101_eq l hl, F114_eq, Option.bind_some, fillG]
  rw [w64_id (z := (l.length : Int) - 2) (by omega) (by omega), w64_id (z := (l.length : Int) - 1) (by omega) (by omega)]
  cases hp : isPz l with
  | false => simp [F96_m]
  | true =>
    cases ha : inB 0 ((l.length : Int) - 1) at' with
    | false => simp [F96_m]
    | true =>
      cases hn : inB 1 ((l.length : Int) - 2) n with
      | false => simp [F96_m]
      | true =>
        rw [inB_iff] at ha
        have h1 : 0 ≤ at' := by omega
        have h2 : at' < l.length := by omega
        have h3 : at'.toNat < l.length := by omega
        have h5 := isPz_len hp
        rw [List.getElem?_eq_getElem h3]
        by_cases h0 : l[at'.toNat] = 0
        · simp [h1, h2, h0, F107_eq l at' n (by omega) h1 h2, F96_m]
        · simp [h1, h2, h0, F96_m]


def F66_sh : FSh := ⟨[(.one (.sl (.int .u8) false true))], []⟩

def F66_fo : List FO := [⟨[(.ag [(.rw 0 0)]), (.one (.si .i64))], [(.row 0 (.int .i64))]⟩]
noncomputable def F66_t : List (Int) → T ((Unit × Int) × List (Int)) := fun code =>
 (.sub (F65 code) fun z0 =>
 (.test (decide ((0 = 0) ∧ ((List.length z0.2) = (List.length z0.2))))
 (.ret (((), z0.1.2.1), z0.2))
 .fail))
noncomputable def F66 (v : List (Int)) : Option ((Unit × Int) × List (Int)) := (F66_t v).run
noncomputable def F66_E : TEnv := (E0.add1 n_F65 F65_sh F65_fo F65)
theorem F66_Eok : (F66_E).OK := (E0ok.add1 F65_ok)
noncomputable def F66_told : Nat → Option SealT := fun id => none
theorem F66_ok : FOK Tryz.prog n_F66 F66_sh F66_fo F66 :=
  fn_ok (E := F66_E) (F66_Eok) (told := F66_told) (fl := []) (c := bodyOf fn_F66) (s := F66_sh) (l := F66_fo) (tree := F66_t) fnat_F66 (by kernel_rfl) (by kernel_rfl) (by kernel_rfl) (loopsOK_of (ls := []) (by kernel_rfl) trivial) (fun v => by kernel_rfl)

def F97_sh : FSh := ⟨[(.ag [(.sl (.int .i64) false false)]), (.one (.si .i64))], []⟩

def F97_w_fo : List FO := [⟨[(.ag [(.nl true true)]), (.one .sb)], []⟩, ⟨[(.ag [(.rw 0 0)]), (.one .sb)], [(.row 0 (.int .i64))]⟩]
noncomputable def F97_t : (List (Int) × Int) → T ((Unit × Bool) ⊕ ((Unit × Bool) × List (Int))) := fun (p_0, at') =>
 (.sub (F101 p_0) fun z0 =>
 (.test (! z0)
 (.ret (Sum.inl ((), false)))
 (.sub (F114 (at', ((0 : Int), (w64 (((List.length p_0) : Int) - 1))))) fun z1 =>
 (.test (! z1)
 (.ret (Sum.inl ((), false)))
 (.test (decide ((0 ≤ at') ∧ (at' < ((List.length p_0) : Int))))
 (.sub (p_0[(Int.toNat at')]?) fun z2 =>
 (.test (z2 == 0)
 (.ret (Sum.inl ((), false)))
 (.sub (F107 (p_0, (at', (0 : Int)))) fun z3 =>
 (.test (decide ((0 = 0) ∧ ((List.length z3.2) = (List.length z3.2))))
 (.ret (Sum.inr (((), true), z3.2)))
 .fail))))
 .fail)))))
noncomputable def F97_w (v : (List (Int) × Int)) : Option ((Unit × Bool) ⊕ ((Unit × Bool) × List (Int))) := (F97_t v).run
noncomputable def F97_E : TEnv := (((E0.add1 n_F101 F101_sh F101_fo F101).add1 n_F114 F114_sh F114_fo F114).add1 n_F107 F107_sh F107_fo F107)
theorem F97_Eok : (F97_E).OK := (((E0ok.add1 F101_ok).add1 F114_ok).add1 F107_ok)
noncomputable def F97_told : Nat → Option SealT := fun id => none
theorem F97_w_ok : FOK Tryz.prog n_F97 F97_sh F97_w_fo F97_w :=
  fn_ok (E := F97_E) (F97_Eok) (told := F97_told) (fl := []) (c := bodyOf fn_F97) (s := F97_sh) (l := F97_w_fo) (tree := F97_t) fnat_F97 (by kernel_rfl) (by kernel_rfl) (by kernel_rfl) (loopsOK_of (ls := []) (by kernel_rfl) trivial) (fun v => by kernel_rfl)
def F97_fo : List FO := [⟨[(.ag [(.rw 0 0)]), (.one .sb)], [(.row 0 (.int .i64))]⟩]
def F97_m : ((Unit × Bool) ⊕ ((Unit × Bool) × List (Int))) → ((Unit × Bool) × List (Int)) := fun o => match o with | (.inl a) => (a, []) | (.inr x) => x
noncomputable def F97 (v : (List (Int) × Int)) : Option ((Unit × Bool) × List (Int)) := (F97_w v).map F97_m
theorem F97_ok : FOK Tryz.prog n_F97 F97_sh F97_fo F97 :=
  FOK.own (l' := F97_fo) F97_w_ok F97_m [(.int .i64)] (by decide) (fun o => match o with | (.inl a) => .inr (by kernel_rfl) | (.inr x) => .inl (by kernel_rfl))

theorem F97_eq (l : List Int) (at' : Int) (hl : l.length < 4611686018427387904) : F97 (l, at') = some (((), (openG l at').1), (openG l at').2) := by
  simp only [F97, F97_w, F97_t, T.run, F101_eq l hl, F114_eq, Option.bind_some, openG]
  rw [w64_id (z := (l.length : Int) - 1) (by omega) (by omega)]
  cases hp : isPz l with
  | false => simp [F97_m]
  | true =>
    cases ha : inB 0 ((l.length : Int) - 1) at' with
    | false => simp [F97_m]
    | true =>
      rw [inB_iff] at ha
      have h1 : 0 ≤ at' := by omega
      have h2 : at' < l.length := by omega
      have h3 : at'.toNat < l.length := by omega
      have h5 := isPz_len hp
      rw [List.getElem?_eq_getElem h3]
      by_cases h0 : l[at'.toNat] = 0
      · simp [h1, h2, h0, F97_m]
      · simp [h1, h2, h0, F107_eq l at' 0 (by omega) h1 h2, F97_m]


def F48_sh : FSh := ⟨[(.one (.sl (.int .u8) false true))], []⟩

def F48_fo : List FO := [⟨[(.ag [(.rw 0 0)]), (.one (.si .i64))], [(.row 0 (.int .i64))]⟩]
noncomputable def F48_t : List (Int) → T ((Unit × Int) × List (Int)) := fun code =>
 (.sub (F66 code) fun z0 =>
 (.test (decide ((0 = 0) ∧ ((List.length z0.2) = (List.length z0.2))))
 (.ret (((), z0.1.2), z0.2))
 .fail))
noncomputable def F48 (v : List (Int)) : Option ((Unit × Int) × List (Int)) := (F48_t v).run
noncomputable def F48_E : TEnv := (E0.add1 n_F66 F66_sh F66_fo F66)
theorem F48_Eok : (F48_E).OK := (E0ok.add1 F66_ok)
noncomputable def F48_told : Nat → Option SealT := fun id => none
theorem F48_ok : FOK Tryz.prog n_F48 F48_sh F48_fo F48 :=
  fn_ok (E := F48_E) (F48_Eok) (told := F48_told) (fl := []) (c := bodyOf fn_F48) (s := F48_sh) (l := F48_fo) (tree := F48_t) fnat_F48 (by kernel_rfl) (by kernel_rfl) (by kernel_rfl) (loopsOK_of (ls := []) (by kernel_rfl) trivial) (fun v => by kernel_rfl)

def F52_sh : FSh := ⟨[.one (.nl true true), .one (.si .i64)], []⟩
def F52_fo : List FO := [⟨[.one (.rw 0 0)], [.row 0 (.int .i64)]⟩]
def F52 (v : Unit × Int) : Option (Unit × List Int) := if 0 ≤ v.2 ∧ v.2 ≤ 1000000000000 ∧ v.2.toNat * 8 ≤ 140737488355328 then some ((), []) else none
def F52_ren : Shelf.Ren := ⟨fun _ => n_F52, fun t => if t = 0 then 0 else if t = 4 then 4 else if t = 9 then 9 else if t = 20 then 20 else if t = 22 then 24 else 3, fun x => x⟩
theorem F52_lay : Lays8.n4 Tryz.prog F52_ren :=
  { f4 := ⟨"slices.Grow[[]int,int]", by kernel_rfl, by kernel_rfl⟩, mixed := by kernel_rfl, t0 := by kernel_rfl, a0 := fun w => by kernel_rfl, z0 := fun w => by kernel_rfl, v0 := fun w => by kernel_rfl, t3 := by kernel_rfl, a3 := fun w => by kernel_rfl, z3 := fun w => by kernel_rfl, v3 := fun w => by kernel_rfl, t4 := by kernel_rfl, a4 := fun w => by kernel_rfl, z4 := fun w => by kernel_rfl, v4 := fun w => by kernel_rfl, t9 := by kernel_rfl, a9 := fun w => by kernel_rfl, z9 := fun w => by kernel_rfl, v9 := fun w => by kernel_rfl, t20 := by kernel_rfl, a20 := fun w => by kernel_rfl, z20 := fun w => by kernel_rfl, v20 := fun w => by kernel_rfl, t22 := by kernel_rfl, a22 := fun w => by kernel_rfl, z22 := fun w => by kernel_rfl, v22 := fun w => by kernel_rfl }
noncomputable def F52_info : TypeInfo := (Tryz.prog.info? 3).get (by kernel_rfl)
theorem F52_ok : FOK Tryz.prog n_F52 F52_sh F52_fo F52 :=
  grow_ok ⟨_, fnat_F52, by kernel_rfl, by kernel_rfl⟩ (ρr := F52_ren) rfl F52_lay (.int .i64) F52_info (.int .i64 0) (by kernel_rfl) (by kernel_rfl) (by kernel_rfl) (by decide) 8 (by kernel_rfl)

def F41_sh : FSh := ⟨[(.one (.sl (.list false (.int .i64)) false false))], []⟩

def F41_L3_sh : LSh := ⟨(fun ex => match ex with | .norm => [(0, none), (3, none), (9, none), (10, none), (11, none)] | .exit i => if i = 0 then [(0, none), (3, none)] else [] | .ret => [(2, none)]), [(0, (.one (.sl (.list false (.int .i64)) false false))), (3, (.one (.si .i64))), (9, (.one (.sl (.list false (.int .i64)) false false))), (10, (.one (.si .i64))), (11, (.one (.si .i64)))], [], [⟨(.exit 0), [(0, (.one (.sl (.list false (.int .i64)) false false))), (3, (.one (.si .i64)))], []⟩], [], []⟩
noncomputable def F41_L3_step : (List (List (Int)) × Int × List (List (Int)) × Int × Int) → T ((List (List (Int)) × Int × List (List (Int)) × Int × Int) ⊕ (List (List (Int)) × Int)) := fun (slices, size, t9, t10, t11) =>
 (.test (decide (t11 < t10))
 (.test (decide ((0 ≤ t11) ∧ (t11 < ((List.length t9) : Int))))
 (.sub (t9[(Int.toNat t11)]?) fun z0 =>
 (.test (decide ((w64 (size + ((List.length z0) : Int))) < 0))
 .fail
 (.ret (Sum.inl (slices, ((w64 (size + ((List.length z0) : Int))), (t9, (t10, (w64 (t11 + 1))))))))))
 .fail)
 (.ret (Sum.inr (slices, size))))
noncomputable def F41_L3 (v : (List (List (Int)) × Int × List (List (Int)) × Int × Int)) : Option (List (List (Int)) × Int) := loopO (fun v => (F41_L3_step v).run) v

def F41_L11_sh : LSh := ⟨(fun ex => match ex with | .norm => [(6, none), (25, none), (26, none), (27, none)] | .exit i => if i = 2 then [(6, none)] else [] | .ret => [(2, none)]), [(6, (.one (.rw 0 0))), (25, (.one (.sl (.list false (.int .i64)) false false))), (26, (.one (.si .i64))), (27, (.one (.si .i64)))], [(.row 0 (.int .i64))], [⟨(.exit 2), [(6, (.one (.rw 0 0)))], [(.row 0 (.int .i64))]⟩], [], []⟩
noncomputable def F41_L11_step : ((Unit × List (List (Int)) × Int × Int) × List (Int)) → T (((Unit × List (List (Int)) × Int × Int) × List (Int)) ⊕ (Unit × List (Int))) := fun (((), t25, t26, t27), newslice) =>
 (.test (decide (t27 < t26))
 (.test (decide ((0 ≤ t27) ∧ (t27 < ((List.length t25) : Int))))
 (.sub (t25[(Int.toNat t27)]?) fun z0 =>
 (.test (decide ((0 + (List.length newslice)) ≤ (List.length newslice)))
 (.test (decide ((2 * (((List.length newslice) + (List.length z0)) * 9)) ≤ 140737488355328))
 (.test (decide ((0 = 0) ∧ (((List.length newslice) + (List.length z0)) = (List.length ((win newslice 0 (List.length newslice)) ++ z0)))))
 (.ret (Sum.inl (((), (t25, (t26, (w64 (t27 + 1))))), ((win newslice 0 (List.length newslice)) ++ z0))))
 .fail)
 .fail)
 .fail))
 .fail)
 (.test (decide ((0 = 0) ∧ ((List.length newslice) = (List.length newslice))))
 (.ret (Sum.inr ((), newslice)))
 .fail))
noncomputable def F41_L11 (v : ((Unit × List (List (Int)) × Int × Int) × List (Int))) : Option (Unit × List (Int)) := loopO (fun v => (F41_L11_step v).run) v

def F41_fo : List FO := [⟨[(.one (.rw 0 0))], [(.row 0 (.int .i64))]⟩]
noncomputable def F41_t : List (List (Int)) → T (Unit × List (Int)) := fun slices =>
 (.sub (F41_L3 (slices, ((0 : Int), (slices, (((List.length slices) : Int), (0 : Int)))))) fun z0 =>
 (.sub (F52 ((), z0.2)) fun z1 =>
 (.test (decide ((0 = 0) ∧ ((List.length z1.2) = (List.length z1.2))))
 (.sub (F41_L11 (((), (z0.1, (((List.length z0.1) : Int), (0 : Int)))), z1.2)) fun z2 =>
 (.test (decide ((0 = 0) ∧ ((List.length z2.2) = (List.length z2.2))))
 (.ret ((), z2.2))
 .fail))
 .fail)))
noncomputable def F41 (v : List (List (Int))) : Option (Unit × List (Int)) := (F41_t v).run
noncomputable def F41_E : TEnv := (E0.add1 n_F52 F52_sh F52_fo F52)
theorem F41_Eok : (F41_E).OK := (E0ok.add1 F52_ok)
noncomputable def F41_told : Nat → Option SealT := fun id => if id = 3 then some (LSh.told F41_L3_sh 0 (F41_L3_step)) else if id = 11 then some (LSh.told F41_L11_sh 0 (F41_L11_step)) else none
theorem F41_L3_ok : ToldOK Tryz.prog 0 (loopAt (bodyOf fn_F41) [0]) (LSh.told F41_L3_sh 0 (F41_L3_step)) :=
  loop_ok (E := F41_E) (F41_Eok) (told := F41_told) (l := F41_L3_sh) (step := F41_L3_step) (loopsOK_of (ls := []) (by kernel_rfl) trivial) (by kernel_rfl) (fun v => by kernel_rfl)
theorem F41_L11_ok : ToldOK Tryz.prog 0 (loopAt (bodyOf fn_F41) [1]) (LSh.told F41_L11_sh 0 (F41_L11_step)) :=
  loop_ok (E := F41_E) (F41_Eok) (told := F41_told) (l := F41_L11_sh) (step := F41_L11_step) (loopsOK_of (ls := []) (by kernel_rfl) trivial) (by kernel_rfl) (fun v => by kernel_rfl)
theorem F41_ok : FOK Tryz.prog n_F41 F41_sh F41_fo F41 :=
  fn_ok (E := F41_E) (F41_Eok) (told := F41_told) (fl := []) (c := bodyOf fn_F41) (s := F41_sh) (l := F41_fo) (tree := F41_t) fnat_F41 (by kernel_rfl) (by kernel_rfl) (by kernel_rfl) (loopsOK_of (ls := [loopAt (bodyOf fn_F41) [0], loopAt (bodyOf fn_F41) [1]]) (by kernel_rfl) ⟨.inr ⟨_, by kernel_rfl, F41_L3_ok⟩, ⟨.inr ⟨_, by kernel_rfl, F41_L11_ok⟩, trivial⟩⟩) (fun v => by kernel_rfl)

theorem F41_two (a b : List Int) (hl : a.length + b.length ≤ 1000) : F41 [a, b] = some ((), a ++ b) := by
  have h3 : F41_L3 ([a, b], ((0 : Int), ([a, b], ((2 : Int), (0 : Int))))) = some ([a, b], ((a.length + b.length : Nat) : Int)) := by
    simp only [F41_L3]
    have w0 : w64 (a.length : Int) = (a.length : Int) := w64_id (by omega) (by omega)
    have w1 : w64 (1 : Int) = 1 := w64_id (by omega) (by omega)
    have w2 : w64 ((a.length : Int) + (b.length : Int)) = ((a.length + b.length : Nat) : Int) := by rw [w64_id (by omega) (by omega)]; omega
    have w3 : w64 ((1 : Int) + 1) = 2 := w64_id (by omega) (by omega)
    have c0 : ¬ ((a.length : Int) < 0) := by omega
    have c1 : ¬ (((a.length + b.length : Nat) : Int) < 0) := by omega
    have s1 : (F41_L3_step ([a, b], ((0 : Int), ([a, b], ((2 : Int), (0 : Int)))))).run = some (.inl ([a, b], ((a.length : Int), ([a, b], ((2 : Int), (1 : Int)))))) := by
      simp [F41_L3_step, T.run, w0, w1, c0]
    have s2 : (F41_L3_step ([a, b], ((a.length : Int), ([a, b], ((2 : Int), (1 : Int)))))).run = some (.inl ([a, b], (((a.length + b.length : Nat) : Int), ([a, b], ((2 : Int), (2 : Int)))))) := by
      simp only [F41_L3_step, T.run, w2, w3]
      simp [c1]
      omega
    have s3 : (F41_L3_step ([a, b], (((a.length + b.length : Nat) : Int), ([a, b], ((2 : Int), (2 : Int)))))).run = some (.inr ([a, b], ((a.length + b.length : Nat) : Int))) := by
      simp [F41_L3_step, T.run]
    rw [loopO_next s1, loopO_next s2, loopO_done s3]
  have hg : F52 ((), ((a.length + b.length : Nat) : Int)) = some ((), []) := by
    unfold F52
    rw [if_pos ⟨by simp only []; omega, by simp only []; omega, by simp only []; omega⟩]
  have h11 : F41_L11 (((), ([a, b], ((2 : Int), (0 : Int)))), ([] : List Int)) = some ((), a ++ b) := by
    simp only [F41_L11]
    have w1 : w64 (1 : Int) = 1 := w64_id (by omega) (by omega)
    have w3 : w64 (2 : Int) = 2 := w64_id (by omega) (by omega)
    have c0 : 2 * (a.length * 9) ≤ 140737488355328 := by omega
    have c1 : 2 * ((a.length + b.length) * 9) ≤ 140737488355328 := by omega
    have hw : win ([] : List Int) 0 0 = [] := rfl
    have s1 : (F41_L11_step (((), ([a, b], ((2 : Int), (0 : Int)))), ([] : List Int))).run = some (.inl (((), ([a, b], ((2 : Int), (1 : Int)))), a)) := by
      simp [F41_L11_step, T.run, w1, c0, hw]
    have s2 : (F41_L11_step (((), ([a, b], ((2 : Int), (1 : Int)))), a)).run = some (.inl (((), ([a, b], ((2 : Int), (2 : Int)))), a ++ b)) := by
      simp [F41_L11_step, T.run, w3, c1, win_all]
    have s3 : (F41_L11_step (((), ([a, b], ((2 : Int), (2 : Int)))), a ++ b)).run = some (.inr ((), a ++ b)) := by
      simp [F41_L11_step, T.run]
    rw [loopO_next s1, loopO_next s2, loopO_done s3]
  simp only [F41, F41_t, T.run, List.length_cons, List.length_nil]
  have e2 : ((0 + 1 + 1 : Nat) : Int) = 2 := rfl
  simp only [e2, h3, Option.bind_some, hg, List.length_nil, true_and, decide_true, if_true, List.length_cons, h11]


def F77_sh : FSh := ⟨[(.ag [(.sl (.int .i64) false false)]), (.one (.si .i64))], []⟩

def F77_w_fo : List FO := [⟨[(.ag [(.nl true true)]), (.one .sb)], []⟩, ⟨[(.ag [(.rw 0 0)]), (.one .sb)], [(.row 0 (.int .i64))]⟩]
noncomputable def F77_t : (List (Int) × Int) → T ((Unit × Bool) ⊕ ((Unit × Bool) × List (Int))) := fun (p_0, k) =>
 (.sub (F47 (p_0, k)) fun z0 =>
 (.test (! z0)
 (.ret (Sum.inl ((), false)))
 (.test (decide (0 ≤ k))
 (.test (decide (((Int.toNat k) ≤ (List.length p_0)) ∧ ((List.length p_0) ≤ (List.length p_0))))
 (.test (decide (0 ≤ k))
 (.test (decide ((0 ≤ (Int.toNat k)) ∧ ((Int.toNat k) ≤ (List.length p_0))))
 (.test (decide (2 ≤ (List.length [(win p_0 (Int.toNat k) ((List.length p_0) - (Int.toNat k))), (win p_0 0 ((Int.toNat k) - 0))])))
 (.sub (F41 (win [(win p_0 (Int.toNat k) ((List.length p_0) - (Int.toNat k))), (win p_0 0 ((Int.toNat k) - 0))] 0 2)) fun z1 =>
 (.test (decide ((0 = 0) ∧ ((List.length z1.2) = (List.length z1.2))))
 (.ret (Sum.inr (((), true), z1.2)))
 .fail))
 .fail)
 .fail)
 .fail)
 .fail)
 .fail)))
noncomputable def F77_w (v : (List (Int) × Int)) : Option ((Unit × Bool) ⊕ ((Unit × Bool) × List (Int))) := (F77_t v).run
noncomputable def F77_E : TEnv := ((E0.add1 n_F47 F47_sh F47_fo F47).add1 n_F41 F41_sh F41_fo F41)
theorem F77_Eok : (F77_E).OK := ((E0ok.add1 F47_ok).add1 F41_ok)
noncomputable def F77_told : Nat → Option SealT := fun id => none
theorem F77_w_ok : FOK Tryz.prog n_F77 F77_sh F77_w_fo F77_w :=
  fn_ok (E := F77_E) (F77_Eok) (told := F77_told) (fl := []) (c := bodyOf fn_F77) (s := F77_sh) (l := F77_w_fo) (tree := F77_t) fnat_F77 (by kernel_rfl) (by kernel_rfl) (by kernel_rfl) (loopsOK_of (ls := []) (by kernel_rfl) trivial) (fun v => by kernel_rfl)
def F77_fo : List FO := [⟨[(.ag [(.rw 0 0)]), (.one .sb)], [(.row 0 (.int .i64))]⟩]
def F77_m : ((Unit × Bool) ⊕ ((Unit × Bool) × List (Int))) → ((Unit × Bool) × List (Int)) := fun o => match o with | (.inl a) => (a, []) | (.inr x) => x
noncomputable def F77 (v : (List (Int) × Int)) : Option ((Unit × Bool) × List (Int)) := (F77_w v).map F77_m
theorem F77_ok : FOK Tryz.prog n_F77 F77_sh F77_fo F77 :=
  FOK.own (l' := F77_fo) F77_w_ok F77_m [(.int .i64)] (by decide) (fun o => match o with | (.inl a) => .inr (by kernel_rfl) | (.inr x) => .inl (by kernel_rfl))

theorem F77_eq (l : List Int) (k : Int) (hl : l.length < 4611686018427387904) : F77 (l, k) = some (((), (turnG l k).1), (turnG l k).2) := by
  simp only [F77, F77_w, F77_t, T.run, F47_eq l k hl, Option.bind_some, turnG]
  cases hp : isPz l with
  | false => simp [F77_m]
  | true =>
    cases hk : inB 0 ((l.length : Int) - 1) k with
    | false => simp [F77_m]
    | true =>
      obtain ⟨w1, w2, k0, k1, l9⟩ := turn_facts hp hk
      have hc := F41_two (l.drop k.toNat) (l.take k.toNat) (by rw [List.length_drop, List.length_take]; omega)
      have hw : ∀ a b : List Int, win [a, b] 0 2 = [a, b] := fun _ _ => rfl
      simp only [w1, w2, hw, k0, hc]
      simp [k1, F77_m]


def F78_sh : FSh := ⟨[(.ag [(.sl (.int .i64) false false)]), (.one (.si .i64))], []⟩

def F78_w_fo : List FO := [⟨[(.ag [(.nl true true)]), (.one .sb)], []⟩, ⟨[(.ag [(.rw 0 0)]), (.one .sb)], [(.row 0 (.int .i64))]⟩]
noncomputable def F78_t : (List (Int) × Int) → T ((Unit × Bool) ⊕ ((Unit × Bool) × List (Int))) := fun (p_0, k) =>
 (.sub (F101 p_0) fun z0 =>
 (.test (! z0)
 (.ret (Sum.inl ((), false)))
 (.sub (F114 (k, ((0 : Int), (w64 (((List.length p_0) : Int) - 1))))) fun z1 =>
 (.test (! z1)
 (.ret (Sum.inl ((), false)))
 (.test (decide (0 ≤ k))
 (.test (decide (((Int.toNat k) ≤ (List.length p_0)) ∧ ((List.length p_0) ≤ (List.length p_0))))
 (.sub (F106 (win p_0 (Int.toNat k) ((List.length p_0) - (Int.toNat k)))) fun z2 =>
 (.test (decide (0 ≤ k))
 (.test (decide ((0 ≤ (Int.toNat k)) ∧ ((Int.toNat k) ≤ (List.length p_0))))
 (.test (decide ((0 + (List.length z2.2)) ≤ (List.length z2.2)))
 (.test (decide ((2 * (((List.length z2.2) + (List.length (win p_0 0 ((Int.toNat k) - 0)))) * 9)) ≤ 140737488355328))
 (.test (decide ((0 = 0) ∧ (((List.length z2.2) + (List.length (win p_0 0 ((Int.toNat k) - 0)))) = (List.length ((win z2.2 0 (List.length z2.2)) ++ (win p_0 0 ((Int.toNat k) - 0)))))))
 (.ret (Sum.inr (((), true), ((win z2.2 0 (List.length z2.2)) ++ (win p_0 0 ((Int.toNat k) - 0))))))
 .fail)
 .fail)
 .fail)
 .fail)
 .fail))
 .fail)
 .fail)))))
noncomputable def F78_w (v : (List (Int) × Int)) : Option ((Unit × Bool) ⊕ ((Unit × Bool) × List (Int))) := (F78_t v).run
noncomputable def F78_E : TEnv := (((E0.add1 n_F101 F101_sh F101_fo F101).add1 n_F114 F114_sh F114_fo F114).add1 n_F106 F106_sh F106_fo F106)
theorem F78_Eok : (F78_E).OK := (((E0ok.add1 F101_ok).add1 F114_ok).add1 F106_ok)
noncomputable def F78_told : Nat → Option SealT := fun id => none
theorem F78_w_ok : FOK Tryz.prog n_F78 F78_sh F78_w_fo F78_w :=
  fn_ok (E := F78_E) (F78_Eok) (told := F78_told) (fl := []) (c := bodyOf fn_F78) (s := F78_sh) (l := F78_w_fo) (tree := F78_t) fnat_F78 (by kernel_rfl) (by kernel_rfl) (by kernel_rfl) (loopsOK_of (ls := []) (by kernel_rfl) trivial) (fun v => by kernel_rfl)
def F78_fo : List FO := [⟨[(.ag [(.rw 0 0)]), (.one .sb)], [(.row 0 (.int .i64))]⟩]
def F78_m : ((Unit × Bool) ⊕ ((Unit × Bool) × List (Int))) → ((Unit × Bool) × List (Int)) := fun o => match o with | (.inl a) => (a, []) | (.inr x) => x
noncomputable def F78 (v : (List (Int) × Int)) : Option ((Unit × Bool) × List (Int)) := (F78_w v).map F78_m
theorem F78_ok : FOK Tryz.prog n_F78 F78_sh F78_fo F78 :=
  FOK.own (l' := F78_fo) F78_w_ok F78_m [(.int .i64)] (by decide) (fun o => match o with | (.inl a) => .inr (by kernel_rfl) | (.inr x) => .inl (by kernel_rfl))

theorem F78_eq (l : List Int) (k : Int) (hl : l.length < 4611686018427387904) : F78 (l, k) = some (((), (turnG l k).1), (turnG l k).2) := by
  simp only [F78, F78_w, F78_t, T.run, F101_eq l hl, F114_eq, Option.bind_some, turnG]
  rw [w64_id (z := (l.length : Int) - 1) (by omega) (by omega)]
  cases hp : isPz l with
  | false => simp [F78_m]
  | true =>
    cases hk : inB 0 ((l.length : Int) - 1) k with
    | false => simp [F78_m]
    | true =>
      obtain ⟨w1, w2, k0, k1, l9⟩ := turn_facts hp hk
      have ho := F106_eq (l.drop k.toNat) (by rw [List.length_drop]; omega)
      have c1 : 2 * ((l.length - k.toNat + k.toNat) * 9) ≤ 140737488355328 := by omega
      have lt : (l.take k.toNat).length = k.toNat := by rw [List.length_take]; omega
      simp only [w1, w2, ho, k0, lt, List.length_drop, win_all, Option.bind_some]
      have e : win (l.drop k.toNat) 0 (l.length - k.toNat) = l.drop k.toNat := by have := win_all (l.drop k.toNat); rwa [List.length_drop] at this
      simp only [e, List.length_append, List.length_drop, lt]
      simp [k1, c1, F78_m]
      omega



def kr (s : Int) : List Int → Int
  | [] => 1
  | [a] => a
  | a :: b :: l => a * kr s (b :: l) + s * kr s l
def kt (s : Int) : List Int → Int
  | [] => 0
  | _ :: l => kr s l
theorem kr_cons (s a : Int) (l : List Int) : kr s (a :: l) = a * kr s l + s * kt s l := by
  cases l with
  | nil => simp [kr, kt]
  | cons b l => rfl
theorem kt_cons (s a : Int) (l : List Int) : kt s (a :: l) = kr s l := rfl
theorem kr_fold (s : Int) : ∀ (l : List Int) (b o : Int), (l.foldl (cf s) (b, o)).2 = o * kr s l + s * b * kt s l
  | [], b, o => by simp [kr, kt]
  | a :: l, b, o => by
    rw [List.foldl_cons]
    show (l.foldl (cf s) (o, a * o + s * b)).2 = _
    rw [kr_fold s l, kr_cons, kt_cons]
    grind
theorem cont_kr (s : Int) (l : List Int) : cont s l = kr s l := by
  unfold cont cont2
  rw [kr_fold]
  simp
theorem kr_two : ∀ l : List Int, (∀ x ∈ l, 2 ≤ x) → kt (-1) l < kr (-1) l ∧ 0 ≤ kt (-1) l
  | [], _ => by simp [kr, kt]
  | a :: l, h => by
    obtain ⟨h1, h2⟩ := kr_two l fun x hx => h x (List.mem_cons_of_mem _ hx)
    have ha := h a (by simp)
    have hm : 2 * kr (-1) l ≤ a * kr (-1) l := Int.mul_le_mul_of_nonneg_right ha (by omega)
    rw [kr_cons, kt_cons]
    omega
structure MinusOf (num den : Int) (l : List Int) : Prop where
  ne : l ≠ []
  k : kr (-1) l = num
  t : kt (-1) l = den
  two : ∀ x ∈ l.tail, 2 ≤ x
  one : ∀ x ∈ l.head?, 1 ≤ x
  far : den < num → ∀ x ∈ l.head?, 2 ≤ x
theorem upQ_two {num den : Int} (h1 : 1 ≤ den) (h : den < num) : 2 ≤ upQ num den := by
  unfold upQ
  exact Int.le_ediv_of_mul_le (by omega) (by omega)
theorem upQ_one {num den : Int} (h1 : 1 ≤ den) (h : 1 ≤ num) : 1 ≤ upQ num den := by
  unfold upQ
  exact Int.le_ediv_of_mul_le (by omega) (by omega)
theorem MinusOf.cons {num den : Int} {l : List Int} (h1 : 1 ≤ num) (h2 : 1 ≤ den) (hr : upQ num den * den - num < den) (h : MinusOf den (upQ num den * den - num) l) : MinusOf num den (upQ num den :: l) := by
  refine ⟨by simp, by rw [kr_cons, h.k, h.t]; omega, by rw [kt_cons, h.k], fun x hx => ?_, fun x hx => ?_, fun hl x hx => ?_⟩
  · cases l with
    | nil => exact absurd rfl h.ne
    | cons b l =>
      simp only [List.tail_cons, List.mem_cons] at hx
      rcases hx with rfl | hx
      · exact h.far hr x rfl
      · exact h.two x hx
  · simp at hx; subst hx; exact upQ_one h2 h1
  · simp at hx; subst hx; exact upQ_two h2 hl
structure PlusOf (num den : Int) (l : List Int) : Prop where
  ne : l ≠ []
  k : kr 1 l = num
  t : kt 1 l = den
  pos : den ≤ num → ∀ x ∈ l, 1 ≤ x
  far : den < num → ∀ x ∈ l.getLast?, 2 ≤ x
theorem PlusOf.cons {num den q r : Int} {l : List Int} (h2 : 1 ≤ den) (hr0 : 0 < r) (hr : r < den) (e : q * den + r = num) (h : PlusOf den r l) : PlusOf num den (q :: l) := by
  refine ⟨by simp, by rw [kr_cons, h.k, h.t]; omega, by rw [kt_cons, h.k], fun hl x hx => ?_, fun hl x hx => ?_⟩
  · simp only [List.mem_cons] at hx
    rcases hx with rfl | hx
    · refine Int.not_lt.1 fun hq => ?_
      have : x * den ≤ 0 * den := Int.mul_le_mul_of_nonneg_right (by omega) (by omega)
      omega
    · exact h.pos (by omega) x hx
  · cases l with
    | nil => exact absurd rfl h.ne
    | cons b l =>
      rw [List.getLast?_cons_cons] at hx
      exact h.far hr x hx



def A4 (a : Int) : M4 := (a, -1, 1, 0)
def MM : List Int → M4
  | [] => one4
  | a :: l => mul4 (A4 a) (MM l)
theorem mul4_assoc (a b c : M4) : mul4 (mul4 a b) c = mul4 a (mul4 b c) := by
  obtain ⟨a1, a2, a3, a4⟩ := a
  obtain ⟨b1, b2, b3, b4⟩ := b
  obtain ⟨c1, c2, c3, c4⟩ := c
  simp only [mul4, Prod.mk.injEq]
  refine ⟨?_, ?_, ?_, ?_⟩ <;> grind
theorem mul4_one (a : M4) : mul4 one4 a = a := by
  obtain ⟨a1, a2, a3, a4⟩ := a
  simp [mul4, one4]
theorem mul4_one' (a : M4) : mul4 a one4 = a := by
  obtain ⟨a1, a2, a3, a4⟩ := a
  simp [mul4, one4]
theorem MM_append : ∀ l m : List Int, MM (l ++ m) = mul4 (MM l) (MM m)
  | [], m => by rw [List.nil_append]; exact (mul4_one _).symm
  | a :: l, m => by rw [List.cons_append, MM, MM, MM_append l m, mul4_assoc]
theorem MM_mOf (l : List Int) : MM l = mOf l := by
  have key : ∀ n (l : List Int), l.length = n → MM l = mOf l := by
    intro n
    induction n with
    | zero => intro l hl; obtain rfl := List.eq_nil_of_length_eq_zero hl; rfl
    | succ n ih =>
      intro l hl
      rcases List.eq_nil_or_concat l with rfl | ⟨t, a, rfl⟩
      · rfl
      · rw [List.concat_eq_append] at hl ⊢
        rw [MM_append, ih t (by simpa using hl), mOf_snoc]
        show mul4 (mOf t) (mul4 (A4 a) one4) = _
        rw [mul4_one']
        rfl
  exact key _ l rfl
def clo (e : Int) (l : List Int) : Prop := MM l = (e, 0, 0, e)
theorem clo_rot1 {e a : Int} {t : List Int} : clo e (a :: t) ↔ clo e (t ++ [a]) := by
  unfold clo
  rw [MM_append, MM]
  show _ ↔ mul4 (MM t) (mul4 (A4 a) one4) = _
  rw [mul4_one']
  obtain ⟨p, q, r, s⟩ := MM t
  simp only [mul4, A4, Prod.mk.injEq]
  constructor
  · rintro ⟨h1, h2, h3, h4⟩
    refine ⟨?_, ?_, ?_, ?_⟩ <;> grind
  · rintro ⟨h1, h2, h3, h4⟩
    refine ⟨?_, ?_, ?_, ?_⟩ <;> grind
theorem clo_rot {e : Int} : ∀ p q : List Int, clo e (p ++ q) ↔ clo e (q ++ p)
  | [], q => by simp
  | a :: p, q => by
    rw [List.cons_append, clo_rot1, List.append_assoc, clo_rot p (q ++ [a]), List.append_assoc]
    rfl
theorem MM_take (x y : Int) (l : List Int) : MM (x :: 1 :: y :: l) = MM ((x - 1) :: (y - 1) :: l) := by
  show mul4 (A4 x) (mul4 (A4 1) (mul4 (A4 y) (MM l))) = mul4 (A4 (x - 1)) (mul4 (A4 (y - 1)) (MM l))
  rw [← mul4_assoc, ← mul4_assoc, ← mul4_assoc]
  congr 1
  simp only [mul4, A4, Prod.mk.injEq]
  refine ⟨?_, ?_, ?_, ?_⟩ <;> grind
theorem clo_take {e x y : Int} {l : List Int} : clo e (x :: 1 :: y :: l) ↔ clo e ((x - 1) :: (y - 1) :: l) := by unfold clo; rw [MM_take]
theorem clo_zero {e a b : Int} {l : List Int} (h : clo e (a :: 0 :: b :: l)) : clo (-e) ((a + b) :: l) := by
  unfold clo at h ⊢
  change mul4 (A4 a) (mul4 (A4 0) (mul4 (A4 b) (MM l))) = _ at h
  change mul4 (A4 (a + b)) (MM l) = _
  generalize MM l = m at h ⊢
  obtain ⟨p, q, r, s⟩ := m
  simp only [mul4, A4, Prod.mk.injEq] at h ⊢
  obtain ⟨h1, h2, h3, h4⟩ := h
  refine ⟨?_, ?_, ?_, ?_⟩ <;> grind
theorem clo_kt {e : Int} {l : List Int} (h : clo e l) (hne : l ≠ []) : kt (-1) l = 0 := by
  unfold clo at h
  rw [MM_mOf] at h
  cases l with
  | nil => exact absurd rfl hne
  | cons a t =>
    simp only [mOf, Prod.mk.injEq] at h
    rw [kt_cons, ← cont_kr]
    exact h.2.2.1
theorem clo_two {e : Int} {l : List Int} (h : clo e l) (hne : l ≠ []) (h2 : ∀ x ∈ l, 2 ≤ x) : False := by
  have h0 := clo_kt h hne
  cases l with
  | nil => exact hne rfl
  | cons a t =>
    have := kr_two t fun x hx => h2 x (List.mem_cons_of_mem _ hx)
    rw [kt_cons] at h0
    omega
theorem clo_adj {e : Int} {x y : Int} {v : List Int} (he : e = 1 ∨ e = -1) (hp : ∀ z ∈ x :: 1 :: y :: v, 1 ≤ z) (hv : v ≠ []) (h1 : x = 1 ∨ y = 1)
    (H : ∀ (l : List Int) (e : Int), l.length < (x :: 1 :: y :: v).length → l ≠ [] → (e = 1 ∨ e = -1) → (∀ z ∈ l, 1 ≤ z) → clo e l → l.sum < 3 * (l.length : Int)) (h : clo e (x :: 1 :: y :: v)) :
    (x :: 1 :: y :: v).sum < 3 * ((x :: 1 :: y :: v).length : Int) - 6 := by
  have he' : -e = 1 ∨ -e = -1 := by omega
  have hx := hp x (by simp)
  have hy := hp y (by simp)
  rw [clo_take] at h
  by_cases hy1 : y = 1
  · subst hy1
    cases v with
    | nil => exact absurd rfl hv
    | cons w v =>
      have hw := hp w (by simp)
      have hz := clo_zero h
      have := H ((x - 1 + w) :: v) (-e) (by simp) (by simp) he' (fun z hz => by
        simp only [List.mem_cons] at hz
        rcases hz with rfl | hz
        · omega
        · exact hp z (by simp [hz])) hz
      simp only [List.sum_cons, List.length_cons] at this ⊢
      omega
  · have hx1 : x = 1 := h1.resolve_right hy1
    subst hx1
    rcases List.eq_nil_or_concat v with rfl | ⟨v, w, rfl⟩
    · exact absurd rfl hv
    · rw [List.concat_eq_append] at *
      have hw := hp w (by simp)
      have h : clo e ((0 :: (y - 1) :: v) ++ [w]) := h
      rw [clo_rot] at h
      have hz := clo_zero (a := w) (b := y - 1) (l := v) h
      have := H ((w + (y - 1)) :: v) (-e) (by simp) (by simp) he' (fun z hz => by
        simp only [List.mem_cons] at hz
        rcases hz with rfl | hz
        · omega
        · exact hp z (by simp [hz])) hz
      simp only [List.sum_cons, List.length_cons, List.sum_append, List.length_append, List.sum_nil, List.length_nil] at this ⊢
      omega
theorem clo_sum : ∀ (n : Nat) (l : List Int) (e : Int), l.length = n → l ≠ [] → (e = 1 ∨ e = -1) → (∀ z ∈ l, 1 ≤ z) → clo e l → l.sum < 3 * (l.length : Int) := by
  intro n
  induction n using Nat.strongRecOn with
  | ind n ih =>
    intro l e hn hne he hp h
    by_cases h2 : ∀ x ∈ l, 2 ≤ x
    · exact (clo_two h hne h2).elim
    · obtain ⟨x, hx, hx2⟩ : ∃ x, x ∈ l ∧ ¬ 2 ≤ x := by
        refine Classical.byContradiction fun hc => h2 fun x hx => Classical.byContradiction fun h3 => hc ⟨x, hx, h3⟩
      have hx1 : x = 1 := by have := hp x hx; omega
      subst hx1
      obtain ⟨A, B, rfl⟩ := List.append_of_mem hx
      have hs : (A ++ 1 :: B).sum = 1 + (B ++ A).sum := by simp only [List.sum_append, List.sum_cons]; omega
      have hl : (A ++ 1 :: B).length = (B ++ A).length + 1 := by simp only [List.length_append, List.length_cons]; omega
      have hp' : ∀ z ∈ B ++ A, 1 ≤ z := fun z hz => hp z (by simp only [List.mem_append, List.mem_cons] at hz ⊢; exact hz.elim (fun h => .inr (.inr h)) .inl)
      rw [clo_rot] at h
      have h : clo e (1 :: (B ++ A)) := h
      rw [hs, hl]
      rw [hl] at hn
      generalize B ++ A = t at *
      have h0 := clo_kt h (by simp)
      rw [kt_cons] at h0
      cases t with
      | nil => simp [kr] at h0
      | cons y t =>
        rcases List.eq_nil_or_concat t with rfl | ⟨v, x, rfl⟩
        · have := hp' y (by simp)
          simp [kr] at h0
          omega
        · rw [List.concat_eq_append] at *
          have hx := hp' x (by simp)
          have hy := hp' y (by simp)
          have h : clo e ((1 :: y :: v) ++ [x]) := h
          rw [clo_rot] at h
          have h : clo e (x :: 1 :: y :: v) := h
          have hlen : (y :: (v ++ [x])).length = v.length + 2 := by simp
          have hsum : (y :: (v ++ [x])).sum = y + (v.sum + x) := by simp
          rw [hlen, hsum]
          rw [hlen] at hn
          by_cases hxy : 2 ≤ x ∧ 2 ≤ y
          · rw [clo_take] at h
            have := ih (n - 1) (by omega) ((x - 1) :: (y - 1) :: v) e (by simp; omega) (by simp) he (fun z hz => by
              simp only [List.mem_cons] at hz
              rcases hz with rfl | rfl | hz
              · omega
              · omega
              · exact hp' z (by simp [hz])) h
            simp only [List.sum_cons, List.length_cons] at this
            omega
          · have h1 : x = 1 ∨ y = 1 := by omega
            cases v with
            | nil =>
              rw [clo_take] at h
              have hk := clo_kt h (by simp)
              simp [kt, kr] at hk
              obtain rfl : y = 1 := by omega
              unfold clo at h
              simp [MM, mul4, A4, one4] at h
              simp
              omega
            | cons w v' =>
              have := clo_adj he (fun z hz => by
                simp only [List.mem_cons] at hz
                rcases hz with rfl | rfl | rfl | hz
                · exact hx
                · omega
                · exact hy
                · exact hp' z (by simp only [List.mem_cons, List.mem_append]; exact .inr (.inl hz))) (by simp) h1 (fun l e hl hne he hp hc => ih l.length (by simp only [List.length_cons] at hl hn; omega) l e rfl hne he hp hc) h
              simp only [List.sum_cons, List.length_cons] at this ⊢
              omega
def Rot (p q : List Int) : Prop := ∃ a b, p = a ++ b ∧ q = b ++ a
theorem Rot.clo {p q : List Int} {e : Int} (h : Rot p q) : clo e p ↔ clo e q := by
  obtain ⟨a, b, rfl, rfl⟩ := h
  exact clo_rot a b
theorem Rot.sum {p q : List Int} (h : Rot p q) : p.sum = q.sum := by
  obtain ⟨a, b, rfl, rfl⟩ := h
  simp only [List.sum_append]; omega
theorem Rot.length {p q : List Int} (h : Rot p q) : p.length = q.length := by
  obtain ⟨a, b, rfl, rfl⟩ := h
  simp only [List.length_append]; omega
theorem Rot.mem {p q : List Int} (h : Rot p q) (x : Int) : x ∈ p ↔ x ∈ q := by
  obtain ⟨a, b, rfl, rfl⟩ := h
  simp only [List.mem_append, or_comm]
theorem decAt_mid (L R : List Int) (x : Int) (hx : -1000000000 ≤ x ∧ x ≤ 1000000000) (p : Nat) (hp : p = L.length) : decAt (L ++ x :: R) p = L ++ (x - 1) :: R := by
  subst hp
  unfold decAt
  have hg : (L ++ x :: R).getD L.length 0 = x := by rw [List.getD_eq_getElem?_getD, List.getElem?_append_right (Nat.le_refl _), Nat.sub_self]; rfl
  rw [hg, w64_id (by omega) (by omega), List.set_append_right _ _ (Nat.le_refl _), Nat.sub_self]
  rfl
theorem getD_mid (L R : List Int) (x : Int) (p : Nat) (hp : p = L.length) : (L ++ x :: R).getD p 0 = x := by
  subst hp
  rw [List.getD_eq_getElem?_getD, List.getElem?_append_right (Nat.le_refl _), Nat.sub_self]; rfl
theorem erase_mid (L R : List Int) (x : Int) (p : Nat) (hp : p = L.length) : (L ++ x :: R).eraseIdx p = L ++ R := by
  subst hp
  rw [List.eraseIdx_append_of_length_le (Nat.le_refl _), Nat.sub_self]
  rfl
theorem cut_rot {l : List Int} {i : Nat} (hn : 4 ≤ l.length) (hb : ∀ z ∈ l, -1000000000 ≤ z ∧ z ≤ 1000000000) (hi : l[i]? = some 1) :
    ∃ x y v, Rot l (x :: 1 :: y :: v) ∧ Rot (cutL l i) ((x - 1) :: (y - 1) :: v) ∧ okC l i = decide (1 ≤ x - 1 ∧ 1 ≤ y - 1) := by
  obtain ⟨hlt, h1⟩ := List.getElem?_eq_some_iff.1 hi
  obtain ⟨A, B, e, hA⟩ : ∃ A B, l = A ++ 1 :: B ∧ A.length = i := ⟨l.take i, l.drop (i + 1), by
    rw [← h1, ← List.drop_eq_getElem_cons hlt, List.take_append_drop], by rw [List.length_take]; omega⟩
  have hlen : l.length = A.length + B.length + 1 := by rw [e]; simp; omega
  obtain ⟨n1, n2, n3, n4, n5, n6⟩ := nb_facts (by omega : 3 ≤ l.length) hlt
  rcases n6 with ⟨q0, q1, q2⟩ | ⟨q0, q1, q2⟩ | ⟨q0, q00, q1, q2⟩
  · -- the first
    obtain rfl : A = [] := List.eq_nil_of_length_eq_zero (by omega)
    cases B with
    | nil => simp at hlen; omega
    | cons y B =>
      rcases List.eq_nil_or_concat B with rfl | ⟨v, x, rfl⟩
      · simp at hlen; omega
      · rw [List.concat_eq_append] at *
        have e : l = (1 :: y :: v) ++ x :: [] := by rw [e]; simp
        have hx := hb x (by rw [e]; simp)
        have hy := hb y (by rw [e]; simp)
        refine ⟨x, y, v, ⟨1 :: y :: v, [x], by rw [e], rfl⟩, ⟨(y - 1) :: v, [x - 1], ?_, rfl⟩, ?_⟩
        · unfold cutL
          rw [q1, q2, q0]
          have d1 : decAt l (l.length - 1) = (1 :: y :: v) ++ (x - 1) :: [] := by
            have := decAt_mid (1 :: y :: v) [] x hx (l.length - 1) (by rw [e]; simp)
            rwa [← e] at this
          rw [d1]
          have d2 := decAt_mid [1] (v ++ [x - 1]) y hy 1 rfl
          have e2 : ((1 :: y :: v) ++ (x - 1) :: []) = [1] ++ y :: (v ++ [x - 1]) := by simp
          rw [e2, d2]
          simp
        · unfold okC
          rw [q1, q2]
          have g1 := getD_mid (1 :: y :: v) [] x (l.length - 1) (by rw [e]; simp)
          have g2 := getD_mid [1] (v ++ [x]) y 1 rfl
          have e2 : l = [1] ++ y :: (v ++ [x]) := by rw [e]; simp
          rw [← e] at g1
          rw [← e2] at g2
          rw [g1, g2, w64_id (by omega) (by omega), w64_id (by omega) (by omega)]
  · -- the last
    obtain rfl : B = [] := List.eq_nil_of_length_eq_zero (by omega)
    cases A with
    | nil => simp at hlen; omega
    | cons y A =>
      rcases List.eq_nil_or_concat A with rfl | ⟨v, x, rfl⟩
      · simp at hlen; omega
      · rw [List.concat_eq_append] at *
        have e : l = (y :: v) ++ x :: [1] := by rw [e]; simp
        have hx := hb x (by rw [e]; simp)
        have hy := hb y (by rw [e]; simp)
        have hlv : l.length = v.length + 3 := by rw [e]; simp
        refine ⟨x, y, v, ⟨y :: v, [x, 1], by rw [e], rfl⟩, ⟨(y - 1) :: v, [x - 1], ?_, rfl⟩, ?_⟩
        · unfold cutL
          rw [q1, q2, q0]
          have d1 : decAt l (l.length - 2) = (y :: v) ++ (x - 1) :: [1] := by
            have := decAt_mid (y :: v) [1] x hx (l.length - 2) (by rw [hlv]; simp)
            rwa [← e] at this
          rw [d1]
          have d2 := decAt_mid [] (v ++ [x - 1, 1]) y hy 0 rfl
          have e2 : ((y :: v) ++ (x - 1) :: [1]) = [] ++ y :: (v ++ [x - 1, 1]) := by simp
          rw [e2, d2]
          have e3 : ([] ++ (y - 1) :: (v ++ [x - 1, 1])) = ((y - 1) :: (v ++ [x - 1])) ++ 1 :: [] := by simp
          rw [e3, erase_mid _ _ _ _ (by rw [hlv]; simp)]
          simp
        · unfold okC
          rw [q1, q2]
          have g1 := getD_mid (y :: v) [1] x (l.length - 2) (by rw [hlv]; simp)
          have g2 := getD_mid [] (v ++ [x, 1]) y 0 rfl
          have e2 : l = [] ++ y :: (v ++ [x, 1]) := by rw [e]; simp
          rw [← e] at g1
          rw [← e2] at g2
          rw [g1, g2, w64_id (by omega) (by omega), w64_id (by omega) (by omega)]
  · -- within
    rcases List.eq_nil_or_concat A with rfl | ⟨L, x, rfl⟩
    · simp at hA; omega
    · cases B with
      | nil => simp at hlen hA; omega
      | cons y R =>
        rw [List.concat_eq_append] at *
        have hL : L.length + 1 = i := by rw [← hA]; simp
        have e : l = L ++ x :: 1 :: y :: R := by rw [e]; simp
        have hx := hb x (by rw [e]; simp)
        have hy := hb y (by rw [e]; simp)
        refine ⟨x, y, R ++ L, ⟨L, x :: 1 :: y :: R, e, by simp⟩, ⟨L, (x - 1) :: (y - 1) :: R, ?_, by simp⟩, ?_⟩
        · unfold cutL
          rw [q1, q2]
          have d1 := decAt_mid L (1 :: y :: R) x hx (i - 1) (by omega)
          rw [← e] at d1
          rw [d1]
          have e2 : L ++ (x - 1) :: 1 :: y :: R = (L ++ [x - 1, 1]) ++ y :: R := by simp
          rw [e2, decAt_mid (L ++ [x - 1, 1]) R y hy (i + 1) (by simp; omega)]
          have e3 : (L ++ [x - 1, 1]) ++ (y - 1) :: R = (L ++ [x - 1]) ++ 1 :: (y - 1) :: R := by simp
          rw [e3, erase_mid _ _ _ _ (by simp; omega)]
          simp
        · unfold okC
          rw [q1, q2]
          have g1 := getD_mid L (1 :: y :: R) x (i - 1) (by omega)
          have g2 := getD_mid (L ++ [x, 1]) R y (i + 1) (by simp; omega)
          have e2 : l = (L ++ [x, 1]) ++ y :: R := by rw [e]; simp
          rw [← e] at g1
          rw [← e2] at g2
          rw [g1, g2, w64_id (by omega) (by omega), w64_id (by omega) (by omega)]
theorem tri_clo : ∀ (k : Nat) (l names : List Int) (ds : List Dg), l.length = k + 3 → (∀ z ∈ l, 1 ≤ z ∧ z ≤ 1000000) → triS k l names = some ds → clo (-1) l
  | 0, l, names, ds, hl, hb, h => by
    unfold triS at h
    split at h
    · rename_i e
      subst e
      unfold clo
      decide
    · cases h
  | k + 1, l, names, ds, hl, hb, h => by
    unfold triS at h
    split at h
    · cases h
    · rename_i i he
      split at h
      · rename_i ho
        obtain ⟨d, hd, _⟩ := Option.map_eq_some_iff.1 h
        obtain ⟨x, y, v, r1, r2, r3⟩ := cut_rot (i := i) (by omega) (fun z hz => by have := hb z hz; omega) (ear_lt he).2
        rw [r3, decide_eq_true_eq] at ho
        have hx := hb x ((r1.mem x).2 (by simp))
        have hy := hb y ((r1.mem y).2 (by simp))
        have hc := tri_clo k (cutL l i) _ d (by rw [cutL_length (ear_lt he).1]; omega) (fun z hz => by
          rw [r2.mem] at hz
          simp only [List.mem_cons] at hz
          rcases hz with rfl | rfl | hz
          · omega
          · omega
          · exact hb z ((r1.mem z).2 (by simp [hz]))) hd
        rw [r2.clo, ← clo_take, ← r1.clo] at hc
        exact hc
      · cases h
theorem clo_tri : ∀ (k : Nat) (l names : List Int), l.length = k + 3 → (∀ z ∈ l, 1 ≤ z ∧ z ≤ 1000000) → l.sum = 3 * (l.length : Int) - 6 → clo (-1) l → ∃ ds, triS k l names = some ds
  | 0, l, names, hl, hb, hs, h => by
    match l, hl with
    | [a, b, c], _ =>
      have ha := hb a (by simp)
      have hb' := hb b (by simp)
      have hc := hb c (by simp)
      simp at hs
      obtain rfl : a = 1 := by omega
      obtain rfl : b = 1 := by omega
      obtain rfl : c = 1 := by omega
      exact ⟨[], by simp [triS]⟩
  | k + 1, l, names, hl, hb, hs, h => by
    have hne : l ≠ [] := by intro e; rw [e] at hl; simp at hl
    cases he : ear l with
    | none =>
      exact (clo_two h hne fun z hz => by
        unfold ear at he
        rw [List.findIdx?_eq_none_iff] at he
        have h1 := he z hz
        have h2 := hb z hz
        have h3 : ¬ (1 = z) := by simpa using h1
        omega).elim
    | some i =>
      obtain ⟨x, y, v, r1, r2, r3⟩ := cut_rot (i := i) (by omega) (fun z hz => by have := hb z hz; omega) (ear_lt he).2
      have hx := hb x ((r1.mem x).2 (by simp))
      have hy := hb y ((r1.mem y).2 (by simp))
      have hr : clo (-1) (x :: 1 :: y :: v) := r1.clo.1 h
      have hlr : l.length = v.length + 3 := by rw [r1.length]; simp
      have hsr : l.sum = x + (1 + (y + v.sum)) := by rw [r1.sum]; simp
      have hxy : 2 ≤ x ∧ 2 ≤ y := by
        refine Classical.byContradiction fun hc => ?_
        have := clo_adj (e := -1) (.inr rfl) (fun z hz => (hb z ((r1.mem z).2 hz)).1) (by intro e; rw [e] at hlr; simp at hlr; omega) (by omega) (fun l e _ hne he hp hc => clo_sum l.length l e rfl hne he hp hc) hr
        simp only [List.sum_cons, List.length_cons] at this
        omega
      have hok : okC l i = true := by rw [r3, decide_eq_true_eq]; omega
      have hcl := cutL_length (ear_lt he).1
      obtain ⟨ds, hd⟩ := clo_tri k (cutL l i) (names.eraseIdx i) (by omega) (fun z hz => by
        rw [r2.mem] at hz
        simp only [List.mem_cons] at hz
        rcases hz with rfl | rfl | hz
        · omega
        · omega
        · exact hb z ((r1.mem z).2 (by simp [hz]))) (by
          rw [r2.sum, hcl]
          simp only [List.sum_cons]
          omega) (by rw [r2.clo, ← clo_take]; exact hr)
      refine ⟨cutD names i :: ds, ?_⟩
      unfold triS
      rw [he]
      simp only [hok, if_true, hd, Option.map_some]
theorem quid_clo {l : List Int} (h : (trOf l).isSome = true) : clo (-1) l := by
  have hn : inB 3 12 (l.length : Int) = true := by
    unfold trOf at h
    split at h
    · assumption
    · simp at h
  have hb : l.all (inB 1 12) = true := by
    cases hb : l.all (inB 1 12) with
    | true => rfl
    | false => rw [trOf_bad l hb] at h; simp at h
  have hs := trOf_spec l hb hn
  rw [inB_iff] at hn
  cases ht : triS (l.length - 3) l (nameL l.length) with
  | none => rw [ht] at hs; rw [← hs] at h; simp at h
  | some ds =>
    have hb' : ∀ z ∈ l, 1 ≤ z ∧ z ≤ 1000000 := fun z hz => by
      have := List.all_eq_true.1 hb z hz
      rw [inB_iff] at this
      omega
    exact tri_clo (l.length - 3) l _ ds (by omega) hb' ht
theorem clo_quid {l : List Int} (hn : 3 ≤ l.length ∧ l.length ≤ 12) (hb : ∀ z ∈ l, 1 ≤ z ∧ z ≤ 1000000) (hs : l.sum = 3 * (l.length : Int) - 6) (h : clo (-1) l) : (trOf l).isSome = true := by
  obtain ⟨ds, hd⟩ := clo_tri (l.length - 3) l (nameL l.length) (by omega) hb hs h
  obtain ⟨h1, h2⟩ := triS_tri (l.length - 3) l (nameL l.length) ds (nameL_sorted _) (by omega) (by rw [nameL_length]; omega) (fun v hv => by have := hb v hv; omega) hd
  unfold trOf
  rw [if_pos (by rw [inB_iff]; omega), h1]
  simp only
  rw [if_pos (cnts_quid.1 h2)]
  rfl
theorem goL_complete (m : Nat) : ∀ (rest b t : List Dg), t.Sublist rest → b.length + t.length = m → t ≠ [] → (b ++ t).Pairwise (fun d e => crossD e d = false) → b ++ t ∈ goL m rest b
  | [], b, t, h, hm, hne, hp => absurd (List.sublist_nil.1 h) hne
  | d :: rest, b, t, h, hm, hne, hp => by
    rw [goL_cons, List.mem_append]
    cases h with
    | cons _ h => exact .inr (goL_complete m rest b t h hm hne hp)
    | cons_cons _ h =>
      rename_i t'
      left
      have hf : freeD d b = true := by
        unfold freeD
        rw [Bool.not_eq_true', List.any_eq_false]
        intro e he
        have := (List.pairwise_append.1 hp).2.2 e he d (by simp)
        rw [this]; simp
      rw [if_pos hf]
      unfold lookL
      cases t' with
      | nil =>
        rw [if_pos (by simpa using hm)]
        simp
      | cons x t'' =>
        rw [if_neg (by simp only [List.length_append, List.length_cons, List.length_nil] at hm ⊢; omega)]
        have := goL_complete m rest (b ++ [d]) (x :: t'') h (by simp only [List.length_append, List.length_cons, List.length_nil] at hm ⊢; omega) (by simp) (by simpa using hp)
        simpa using this
theorem sub_of_sorted {X : Type} {lt : X → X → Prop} (irr : ∀ a, ¬ lt a a) (tr : ∀ a b c, lt a b → lt b c → lt a c) : ∀ (l s : List X), l.Pairwise lt → s.Pairwise lt → (∀ x ∈ s, x ∈ l) → s.Sublist l
  | [], s, hl, hs, h => by
    cases s with
    | nil => exact List.Sublist.refl _
    | cons x s => exact absurd (h x (by simp)) (by simp)
  | a :: l, [], hl, hs, h => List.nil_sublist _
  | a :: l, x :: s, hl, hs, h => by
    obtain ⟨hl1, hl2⟩ := List.pairwise_cons.1 hl
    obtain ⟨hs1, hs2⟩ := List.pairwise_cons.1 hs
    rcases List.mem_cons.1 (h x (by simp)) with rfl | hx
    · refine List.Sublist.cons_cons _ (sub_of_sorted irr tr l s hl2 hs2 fun y hy => ?_)
      rcases List.mem_cons.1 (h y (by simp [hy])) with rfl | h'
      · exact absurd (hs1 _ hy) (irr _)
      · exact h'
    · refine List.Sublist.cons _ (sub_of_sorted irr tr l (x :: s) hl2 hs fun y hy => ?_)
      have hax := hl1 x hx
      rcases List.mem_cons.1 (h y hy) with rfl | h'
      · rcases List.mem_cons.1 hy with rfl | hy
        · exact hx
        · exact absurd (tr _ _ _ hax (hs1 _ hy)) (irr _)
      · exact h'
theorem dgL_up (n : Nat) (h : n ≤ 9) : (dgL n).Pairwise (fun d e => ltD d e = true) := by
  have : ∀ k, k ≤ 9 → (dgL k).Pairwise (fun d e => ltD d e = true) := by decide +kernel
  exact this n h
theorem mem_dgL {n : Nat} {d : Dg} (h : inDg n d = true) : d ∈ dgL n := by
  have h' := inDg_iff.1 h
  unfold dgL
  rw [List.mem_flatMap]
  refine ⟨d.1.toNat, List.mem_range.2 (by omega), List.mem_filter.2 ⟨List.mem_map.2 ⟨d.2.toNat, List.mem_range.2 (by omega), ?_⟩, h⟩⟩
  obtain ⟨a, b⟩ := d
  simp only [Prod.mk.injEq]
  simp only at h'
  omega
theorem tri_allT {n : Nat} {ds : List Dg} (hn : n ≤ 9) (h : isTri n ds = true) : ds ∈ allT n := by
  obtain ⟨h1, h2, h3, h4⟩ := (isTri_iff _ _).1 h
  have hsub : ds.Sublist (dgL n) := sub_of_sorted (lt := fun d e => ltD d e = true) (fun a => by rw [ltD_iff]; omega) (fun a b c => by rw [ltD_iff, ltD_iff, ltD_iff]; omega)
    _ _ (dgL_up n hn) (h4.imp fun h => h.1) fun d hd => mem_dgL (h3 d hd)
  unfold allT lookL
  split
  · rename_i h0
    have : ds = [] := List.eq_nil_of_length_eq_zero (by simp at h0; omega)
    simp [this]
  · rename_i h0
    have := goL_complete (n - 3) (dgL n) [] ds hsub (by simp; omega) (by intro e; subst e; simp at h2 h0; omega) (by rw [List.nil_append]; exact h4.imp fun h => h.2)
    simpa using this
theorem trOf_tri {l : List Int} {ds : List Dg} (h : trOf l = some ds) : isTri (l.length : Nat) ds = true ∧ quid l.length ds = l := by
  unfold trOf at h
  split at h
  · rename_i hn
    rw [inB_iff] at hn
    split at h
    · rename_i es hT
      split at h
      · rename_i hq
        obtain rfl := Option.some.inj h
        obtain ⟨g1, g2⟩ := tri_good _ _ _ _ (nameL_sorted _) (by omega) (by rw [nameL_length]; omega) hT
        refine ⟨good_isTri (by omega) (fun m hm => nameL_mem hm) g2 (by omega), ?_⟩
        rw [← hq]
        unfold quid
        simp only [List.length_map, List.length_range]
        refine List.map_congr_left fun p _ => ?_
        rw [cnt_perm (sortD_perm es)]
      · cases h
    · cases h
  · cases h
theorem quid_allQ {l : List Int} (hn : l.length ≤ 9) (h : (trOf l).isSome = true) : l ∈ allQ l.length := by
  obtain ⟨ds, e⟩ := Option.isSome_iff_exists.1 h
  obtain ⟨h1, h2⟩ := trOf_tri e
  unfold allQ
  exact (sortL_perm _).mem_iff.2 (List.mem_map.2 ⟨ds, tri_allT hn h1, h2⟩)
theorem trOf_bounds {l : List Int} (h : (trOf l).isSome = true) : (3 ≤ l.length ∧ l.length ≤ 12) ∧ ∀ v ∈ l, 1 ≤ v ∧ v ≤ (l.length : Int) - 2 := by
  obtain ⟨ds, e⟩ := Option.isSome_iff_exists.1 h
  obtain ⟨h1, h2⟩ := trOf_tri e
  obtain ⟨g1, g2, g3, g4⟩ := (isTri_iff _ _).1 h1
  refine ⟨by omega, fun v hv => ?_⟩
  rw [← h2] at hv
  obtain ⟨p, hp, e⟩ := List.mem_map.1 hv
  have c1 := cnt_nn ds p
  have c2 : cnt ds p ≤ ds.length := cnt_le fun d hd => by have := inDg_iff.1 (g3 d hd); omega
  omega
theorem sum_range_add (f g : Nat → Int) : ∀ n : Nat, ((List.range n).map fun p => f p + g p).sum = ((List.range n).map f).sum + ((List.range n).map g).sum
  | 0 => by simp
  | n + 1 => by
    have := sum_range_add f g n
    simp only [List.range_succ, List.map_append, List.sum_append, List.map_cons, List.map_nil, List.sum_cons, List.sum_nil]
    omega
theorem sum_range_one (a : Int) : ∀ n : Nat, ((List.range n).map fun p => if a = ((p : Nat) : Int) then (1 : Int) else 0).sum = if 0 ≤ a ∧ a < (n : Int) then 1 else 0
  | 0 => by
    rw [if_neg (by omega)]; rfl
  | n + 1 => by
    have := sum_range_one a n
    simp only [List.range_succ, List.map_append, List.sum_append, List.map_cons, List.map_nil, List.sum_cons, List.sum_nil]
    rw [this]
    split <;> split <;> split <;> omega
theorem sum_cnt (n : Nat) : ∀ ds : List Dg, (∀ d ∈ ds, 0 ≤ d.1 ∧ d.1 < (n : Int) ∧ 0 ≤ d.2 ∧ d.2 < (n : Int)) → ((List.range n).map fun (p : Nat) => cnt ds (p : Int)).sum = 2 * (ds.length : Int)
  | [], _ => by
    have : ∀ n : Nat, ((List.range n).map fun (p : Nat) => cnt [] (p : Int)).sum = 0 := by
      intro n
      induction n with
      | zero => rfl
      | succ n ih => rw [List.range_succ, List.map_append, List.sum_append, ih]; rfl
    rw [this]; rfl
  | d :: t, h => by
    have ih := sum_cnt n t fun e he => h e (by simp [he])
    have hd := h d (by simp)
    have : ((List.range n).map fun (p : Nat) => cnt (d :: t) (p : Int)) = (List.range n).map fun p => ((if d.1 = ((p : Nat) : Int) then (1 : Int) else 0) + (if d.2 = ((p : Nat) : Int) then (1 : Int) else 0)) + cnt t (p : Int) := List.map_congr_left fun p _ => rfl
    rw [this, sum_range_add (fun p => ((if d.1 = ((p : Nat) : Int) then (1 : Int) else 0) + (if d.2 = ((p : Nat) : Int) then (1 : Int) else 0))) (fun p => cnt t (p : Int)), sum_range_add (fun p => if d.1 = ((p : Nat) : Int) then (1 : Int) else 0) (fun p => if d.2 = ((p : Nat) : Int) then (1 : Int) else 0), sum_range_one, sum_range_one, ih, if_pos (by omega), if_pos (by omega), List.length_cons]
    omega
theorem quid_sum {l : List Int} (h : (trOf l).isSome = true) : l.sum = 3 * (l.length : Int) - 6 := by
  obtain ⟨ds, e⟩ := Option.isSome_iff_exists.1 h
  obtain ⟨h1, h2⟩ := trOf_tri e
  obtain ⟨g1, g2, g3, g4⟩ := (isTri_iff _ _).1 h1
  have hs := sum_cnt l.length ds fun d hd => by have := inDg_iff.1 (g3 d hd); omega
  have h3 : l.sum = (quid l.length ds).sum := by rw [h2]
  have h4 : ∀ n : Nat, ((List.range n).map fun (_ : Nat) => (1 : Int)).sum = (n : Int) := by
    intro n
    induction n with
    | zero => rfl
    | succ n ih => simp only [List.range_succ, List.map_append, List.sum_append, ih, List.map_cons, List.map_nil, List.sum_cons, List.sum_nil]; omega
  rw [h3]
  unfold quid
  rw [sum_range_add (fun _ => 1) (fun p => cnt ds (p : Int)), h4, hs]
  omega
theorem set_mid (L R : List Int) (x v : Int) (p : Nat) (hp : p = L.length) : (L ++ x :: R).set p v = L ++ v :: R := by subst hp; simp
theorem glueL_mid (L R : List Int) (x y : Int) : glueL (L ++ x :: y :: R) (L.length + 1) = L ++ (x + 1) :: 1 :: (y + 1) :: R := by
  unfold glueL
  have h1 : (L ++ x :: y :: R).take (L.length + 1) = L ++ [x] := by
    rw [show L ++ x :: y :: R = (L ++ [x]) ++ y :: R by simp, List.take_left' (by simp)]
  have h2 : (L ++ x :: y :: R).drop (L.length + 1) = y :: R := by
    rw [show L ++ x :: y :: R = (L ++ [x]) ++ y :: R by simp, List.drop_left' (by simp)]
  have h3 : (L.length + 1 + 1) % ((L ++ x :: y :: R).length + 1) = L.length + 2 := Nat.mod_eq_of_lt (by simp only [List.length_append, List.length_cons]; omega)
  simp only [h1, h2, h3]
  rw [show L ++ [x] ++ 1 :: y :: R = L ++ x :: 1 :: y :: R by simp, getD_mid L _ x _ (by omega), set_mid L _ x _ _ (by omega)]
  rw [show L ++ (x + 1) :: 1 :: y :: R = (L ++ [x + 1, 1]) ++ y :: R by simp, getD_mid _ _ y _ (by simp), set_mid _ _ y _ _ (by simp)]
  simp
theorem glueL_end (M : List Int) (x z : Int) : glueL (x :: (M ++ [z])) (M.length + 2) = (x + 1) :: (M ++ [z + 1, 1]) := by
  unfold glueL
  have h0 : (x :: (M ++ [z])).length = M.length + 2 := by simp
  have h1 : (x :: (M ++ [z])).take (M.length + 2) = x :: (M ++ [z]) := List.take_of_length_le (by simp)
  have h2 : (x :: (M ++ [z])).drop (M.length + 2) = [] := List.drop_of_length_le (by simp)
  have h3 : (M.length + 2 + 1) % ((x :: (M ++ [z])).length + 1) = 0 := by rw [h0]; exact Nat.mod_self _
  simp only [h1, h2, h3]
  rw [show x :: (M ++ [z]) ++ [1] = (x :: M) ++ z :: [1] by simp, getD_mid _ _ z _ (by simp), set_mid _ _ z _ _ (by simp)]
  simp
theorem glue_quid {q : List Int} {j : Nat} (h : (trOf q).isSome = true) (hn : q.length ≤ 11) (hj : j < q.length) : (trOf (glueL q (j + 1))).isSome = true := by
  obtain ⟨⟨b1, b2⟩, b3⟩ := trOf_bounds h
  have hc := quid_clo h
  have hs := quid_sum h
  by_cases e : j + 1 < q.length
  · obtain ⟨L, x, y, R, rfl, hL⟩ : ∃ L x y R, q = L ++ x :: y :: R ∧ L.length = j := by
      refine ⟨q.take j, q[j], q[j + 1], q.drop (j + 2), ?_, by rw [List.length_take]; omega⟩
      rw [← List.drop_eq_getElem_cons (by omega), ← List.drop_eq_getElem_cons (by omega), List.take_append_drop]
    subst hL
    rw [glueL_mid]
    refine clo_quid ?_ ?_ ?_ ?_
    · simp only [List.length_append, List.length_cons] at b1 b2 hn ⊢; omega
    · intro v hv
      have hx := b3 x (by simp)
      have hy := b3 y (by simp)
      simp only [List.mem_append, List.mem_cons] at hv
      rcases hv with hv | rfl | rfl | rfl | hv
      · have := b3 v (by simp [hv]); omega
      · omega
      · omega
      · omega
      · have := b3 v (by simp [hv]); omega
    · simp only [List.sum_append, List.sum_cons, List.length_append, List.length_cons] at hs ⊢; omega
    · rw [clo_rot, List.cons_append, List.cons_append, List.cons_append, clo_take, Int.add_sub_cancel, Int.add_sub_cancel, ← List.cons_append, ← List.cons_append, ← clo_rot]
      exact hc
  · obtain ⟨x, M, z, rfl⟩ : ∃ x M z, q = x :: (M ++ [z]) := by
      cases q with
      | nil => simp at b1
      | cons x t =>
        rcases List.eq_nil_or_concat t with rfl | ⟨M, z, rfl⟩
        · simp at b1
        · exact ⟨x, M, z, by simp⟩
    have hj' : j + 1 = M.length + 2 := by simp only [List.length_append, List.length_cons, List.length_nil] at hj e; omega
    rw [hj', glueL_end]
    refine clo_quid ?_ ?_ ?_ ?_
    · simp only [List.length_append, List.length_cons, List.length_nil] at b1 b2 hn ⊢; omega
    · intro v hv
      have hx := b3 x (by simp)
      have hz := b3 z (by simp)
      simp only [List.mem_append, List.mem_cons, List.not_mem_nil, or_false] at hv
      rcases hv with rfl | hv | rfl | rfl
      · omega
      · have := b3 v (by simp [hv]); omega
      · omega
      · omega
    · simp only [List.sum_append, List.sum_cons, List.sum_nil, List.length_append, List.length_cons, List.length_nil] at hs ⊢; omega
    · rw [show (x + 1) :: (M ++ [z + 1, 1]) = ((x + 1) :: M) ++ [z + 1, 1] by simp, clo_rot, List.cons_append, List.cons_append, List.nil_append, clo_take, Int.add_sub_cancel, Int.add_sub_cancel,
        show z :: x :: M = [z] ++ (x :: M) by simp, clo_rot]
      simpa using hc
theorem mkN_quid : ∀ (m : Nat) (q : List Int) (z : Int), (trOf q).isSome = true → q.length + m ≤ 12 → (trOf (mkN m q z).1).isSome = true
  | 0, q, z, h, hm => h
  | m + 1, q, z, h, hm => by
    obtain ⟨⟨b1, b2⟩, b3⟩ := trOf_bounds h
    have hj : (rI z % (q.length : Int)).toNat < q.length := by have := Int.emod_lt_of_pos (rI z) (show (0 : Int) < (q.length : Int) by omega); omega
    have hg := glue_quid h (by omega) hj
    refine mkN_quid m _ (rI z) hg ?_
    have : (glueL q ((rI z % (q.length : Int)).toNat + 1)).length = q.length + 1 := by unfold glueL; simp; omega
    omega
theorem fits_iff (p q : List Int) : fits p q = true ↔ p.length = q.length ∧ ∀ i, p.getD i 0 = 0 ∨ p.getD i 0 = q.getD i 0 := by
  unfold fits
  rw [Bool.and_eq_true, decide_eq_true_eq, Bool.not_eq_true', List.any_eq_false]
  constructor
  · rintro ⟨h1, h2⟩
    refine ⟨h1, fun i => ?_⟩
    by_cases hi : i < p.length
    · have := h2 (p[i], q[i]) (by rw [List.mem_iff_getElem?]; exact ⟨i, by simp [hi, ← h1]⟩)
      simp only [List.getD_eq_getElem?_getD, List.getElem?_eq_getElem hi, List.getElem?_eq_getElem (h1 ▸ hi), Option.getD_some]
      by_cases h0 : p[i] = 0
      · exact .inl h0
      · refine .inr ?_
        simp only [Bool.not_eq_true', Bool.or_eq_false_iff, beq_eq_false_iff_ne, ne_eq, Bool.not_eq_false, not_and, Classical.not_not] at this
        exact this h0
    · left
      rw [List.getD_eq_getElem?_getD, List.getElem?_eq_none (by omega)]; rfl
  · rintro ⟨h1, h2⟩
    refine ⟨h1, fun x hx => ?_⟩
    obtain ⟨i, hi⟩ := List.mem_iff_getElem?.1 hx
    have hlt : i < (p.zip q).length := by
      rcases Nat.lt_or_ge i (p.zip q).length with h | h
      · exact h
      · rw [List.getElem?_eq_none h] at hi; cases hi
    have hp : i < p.length := by rw [List.length_zip] at hlt; omega
    have hq : i < q.length := by omega
    rw [List.getElem?_eq_getElem hlt, List.getElem_zip] at hi
    obtain rfl := Option.some.inj hi
    have := h2 i
    simp only [List.getD_eq_getElem?_getD, List.getElem?_eq_getElem hp, List.getElem?_eq_getElem hq, Option.getD_some] at this
    rcases this with h | h <;> simp [h]
def Gp (o p : List Int) : Prop := o.length = p.length ∧ ∀ i, o.getD i 0 = 0 ∨ o.getD i 0 = p.getD i 0
theorem Gp.refl (p : List Int) : Gp p p := ⟨rfl, fun i => .inr rfl⟩
theorem Gp.trans {o p q : List Int} (h1 : Gp o p) (h2 : Gp p q) : Gp o q := ⟨h1.1.trans h2.1, fun i => by
  rcases h1.2 i with h | h
  · exact .inl h
  · rw [h]; exact h2.2 i⟩
theorem getD_set (l : List Int) (k i : Nat) (v : Int) : (l.set k v).getD i 0 = if k = i ∧ k < l.length then v else l.getD i 0 := by
  rw [List.getD_eq_getElem?_getD, List.getElem?_set]
  by_cases h : k = i
  · subst h
    by_cases h' : k < l.length
    · rw [if_pos rfl, if_pos h', if_pos ⟨rfl, h'⟩]; rfl
    · rw [if_pos rfl, if_neg h', if_neg (by omega), List.getD_eq_getElem?_getD, List.getElem?_eq_none (by omega)]
  · rw [if_neg h, if_neg (by omega), List.getD_eq_getElem?_getD]
theorem Gp.set {o p : List Int} (h : Gp o p) (k : Nat) : Gp (o.set k 0) p := ⟨by rw [List.length_set]; exact h.1, fun i => by
  rw [getD_set]
  split
  · exact .inl rfl
  · exact h.2 i⟩
theorem Gp.set2 {o p : List Int} (h : Gp o p) (k : Nat) : Gp (o.set k 0) (p.set k 0) := ⟨by rw [List.length_set, List.length_set]; exact h.1, fun i => by
  rw [getD_set, getD_set]
  have := h.1
  split
  · exact .inl rfl
  · rw [if_neg (by omega)]; exact h.2 i⟩
theorem Gp.pz {o p : List Int} (h : Gp o p) (hp : isPz p = true) : isPz o = true := by
  unfold isPz at hp ⊢
  rw [Bool.and_eq_true] at hp ⊢
  rw [h.1]
  refine ⟨hp.1, List.all_eq_true.2 fun x hx => ?_⟩
  obtain ⟨i, hi, e⟩ := List.getElem_of_mem hx
  have hg := h.2 i
  have hi2 : i < p.length := by have := h.1; omega
  simp only [List.getD_eq_getElem?_getD, List.getElem?_eq_getElem hi, List.getElem?_eq_getElem hi2, Option.getD_some, e] at hg
  have h3 := hp.1
  rw [inB_iff] at h3
  rcases hg with rfl | rfl
  · rw [inB_iff]; omega
  · exact List.all_eq_true.1 hp.2 _ (List.getElem_mem hi2)
theorem solL_mono {o p : List Int} (h : Gp o p) : (solL p).Sublist (solL o) := by
  unfold solL
  rw [h.1]
  have : (allQ p.length).filter (fits p) = ((allQ p.length).filter (fits o)).filter (fits p) := by
    rw [List.filter_filter]
    refine List.filter_congr fun x _ => ?_
    cases hf : fits p x with
    | false => rfl
    | true =>
      rw [fits_iff] at hf
      have : fits o x = true := (fits_iff _ _).2 (Gp.trans h hf)
      rw [this]; rfl
  rw [this]
  exact List.filter_sublist
theorem gapN_gp : ∀ (m : Nat) (q : List Int) (z : Int), Gp (gapN m q z) q
  | 0, q, z => Gp.refl q
  | m + 1, q, z => (gapN_gp m _ _).trans ((Gp.refl q).set _)
theorem gapN_pl : ∀ (m : Nat) (q : List Int) (z : Int), m ≤ (pl q).length → (pl (gapN m q z)).length + m = (pl q).length
  | 0, q, z, h => rfl
  | m + 1, q, z, h => by
    obtain ⟨_, _, _, h4⟩ := pl_pick (q := q) (z := z) (by omega)
    have h5 := pl_set h4
    have ih := gapN_pl m (q.set ((pl q).getD (rI z % ((pl q).length : Int)).toNat 0).toNat 0) (rI z) (by omega)
    show (pl (gapN m _ _)).length + (m + 1) = _
    omega
theorem gaps_pl {q : List Int} (h : ∀ v ∈ q, 0 ≤ v) : gaps q + ((pl q).length : Int) = (q.length : Int) := by
  rw [pl_len]
  unfold gaps
  have : q.countP (fun x => x == 0) + q.countP (fun v => decide (v > 0)) = q.length := by
    induction q with
    | nil => rfl
    | cons a t ih =>
      have ih := ih fun v hv => h v (by simp [hv])
      have ha := h a (by simp)
      rw [List.countP_cons, List.countP_cons, List.length_cons]
      by_cases e : a = 0
      · subst e
        rw [if_pos (by rfl), if_neg (by simp)]; omega
      · have e1 : ¬ (a == 0) = true := by simpa using e
        have e2 : decide (a > 0) = true := by rw [decide_eq_true_eq]; omega
        rw [if_neg e1, if_pos e2]; omega
  omega
theorem mkPz_ok {n g s : Int} (h : (mkPz n g s).1 = true) : isPz (mkPz n g s).2 = true ∧ ((mkPz n g s).2.length : Int) = n ∧ gaps (mkPz n g s).2 = g ∧ 1 ≤ (solL (mkPz n g s).2).length := by
  unfold mkPz at h ⊢
  split at h
  · rename_i hc
    rw [if_pos hc]
    rw [Bool.and_eq_true, Bool.and_eq_true] at hc
    obtain ⟨⟨hn, hg⟩, hs⟩ := hc
    obtain ⟨m, m1, m2, m3, s1, s2, hq⟩ := mk_start n hn s hs
    obtain ⟨⟨f1, f2⟩, f3, f4⟩ := mkN_facts m 0 [1, 1, 1] s hq (by omega) s1 s2
    have hQ := mkN_quid m [1, 1, 1] s (glued_ok 0 _ hq).1 (by simp only [List.length_cons, List.length_nil]; omega)
    simp only [m1]
    generalize (mkN m [1, 1, 1] s).2 = z at *
    generalize (mkN m [1, 1, 1] s).1 = q at *
    have hgp := gapN_gp g.toNat q z
    rw [inB_iff] at hg
    obtain ⟨⟨b1, b2⟩, b3⟩ := trOf_bounds hQ
    have hpzq : isPz q = true := by
      unfold isPz
      rw [Bool.and_eq_true, inB_iff]
      refine ⟨by omega, List.all_eq_true.2 fun v hv => ?_⟩
      have := b3 v hv
      rw [inB_iff]; omega
    have hpz := hgp.pz hpzq
    have hpl := gapN_pl g.toNat q z (by rw [pl_full f2]; omega)
    have hga := gaps_pl (q := gapN g.toNat q z) (fun v hv => by
      unfold isPz at hpz
      rw [Bool.and_eq_true] at hpz
      have := List.all_eq_true.1 hpz.2 v hv
      rw [inB_iff] at this
      exact this.1)
    rw [pl_full f2] at hpl
    refine ⟨hpz, by rw [hgp.1]; omega, by rw [hgp.1] at hga; omega, ?_⟩
    have hmem : q ∈ solL (gapN g.toNat q z) := by
      unfold solL
      rw [hgp.1]
      exact List.mem_filter.2 ⟨quid_allQ (by omega) hQ, (fits_iff _ _).2 hgp⟩
    exact List.length_pos_of_mem hmem
  · simp at h
theorem hardS_gp (o : List Int) (k : Nat) : Gp (hardS o k) o := by
  unfold hardS
  split
  · exact (Gp.refl o).set k
  · exact Gp.refl o
theorem hard_gp : ∀ (l : List Nat) (o : List Int), Gp (l.foldl hardS o) o
  | [], o => Gp.refl o
  | k :: l, o => (hard_gp l _).trans (hardS_gp o k)
theorem hard_one : ∀ (l : List Nat) (o : List Int), (solL o).length = 1 → (solL (l.foldl hardS o)).length = 1
  | [], o, h => h
  | k :: l, o, h => hard_one l _ (hardS_one h k)
theorem hard_ok {p : List Int} (h : (hardR p).1 = true) : isPz p = true ∧ (solL p).length = 1 ∧ isPz (hardR p).2 = true ∧ solL (hardR p).2 = solL p ∧ Gp (hardR p).2 p ∧
    ∀ k, k < (hardR p).2.length → (hardR p).2.getD k 0 ≠ 0 → 2 ≤ (solL ((hardR p).2.set k 0)).length := by
  unfold hardR at h ⊢
  split at h
  · rename_i hc
    rw [if_pos hc]
    rw [Bool.and_eq_true, beq_iff_eq] at hc
    obtain ⟨h1, h2⟩ := hc
    have hg := hard_gp (List.range p.length) p
    have h3 := hard_one (List.range p.length) p h2
    refine ⟨h1, h2, hg.pz h1, ((solL_mono hg).eq_of_length (by rw [h2]; exact h3.symm)).symm, hg, ?_⟩
    intro k hk hk0
    simp only at hk hk0 ⊢
    rw [hard_foldl_len] at hk
    have e : List.range p.length = List.range k ++ k :: (List.range' (k + 1) (p.length - (k + 1))) := by
      obtain ⟨m, hm⟩ : ∃ m, p.length = k + (m + 1) := ⟨p.length - k - 1, by omega⟩
      rw [hm, List.range_eq_range', List.range_eq_range', ← List.range'_append_1, Nat.zero_add, List.range'_succ, show k + (m + 1) - (k + 1) = m by omega]
    rw [e, List.foldl_append, List.foldl_cons] at hk0 ⊢
    have h4 := hard_one (List.range k) p h2
    have hl := hard_foldl_len (List.range k) p
    generalize (List.range k).foldl hardS p = o at *
    have g1 := hard_gp (List.range' (k + 1) (p.length - (k + 1))) (hardS o k)
    generalize (List.range' (k + 1) (p.length - (k + 1))).foldl hardS (hardS o k) = f at *
    have hne : ¬ (solL (o.set k 0)).length = 1 := by
      intro h5
      have : hardS o k = o.set k 0 := by unfold hardS; rw [if_pos h5]
      rw [this] at g1
      rcases g1.2 k with h | h
      · exact hk0 h
      · rw [getD_set, if_pos ⟨rfl, by omega⟩] at h
        exact hk0 h
    have g2 := ((g1.trans (hardS_gp o k)).set2 k)
    have l1 := (solL_mono g2).length_le
    have l2 := (solL_mono ((Gp.refl o).set k)).length_le
    omega
  · simp at h



def curOK (k : Int) (c : List Int × Int × Int) : Prop := (∀ x ∈ c.1, 0 ≤ x ∧ x ≤ 255) ∧ 0 ≤ c.2.1 ∧ c.2.1 ≤ k
theorem curOK.mono {k m : Int} {c : List Int × Int × Int} (h : curOK k c) (hk : k ≤ m) : curOK m c := ⟨h.1, h.2.1, Int.le_trans h.2.2 hk⟩
theorem wu64_id {z : Int} (h1 : 0 ≤ z) (h2 : z ≤ 18446744073709551615) : wu64 z = z := by
  simp [wu64, IntKind.wrap, IntKind.bits, IntKind.signed]; omega
theorem mask_ok (n : Nat) : 0 ≤ w64 (wu64 ((n &&& 255 : Nat) : Int)) ∧ w64 (wu64 ((n &&& 255 : Nat) : Int)) ≤ 255 := by
  have h : n &&& 255 ≤ 255 := Nat.and_le_right
  generalize n &&& 255 = m at h
  rw [wu64_id (by omega) (by omega), w64_id (by omega) (by omega)]
  omega
theorem next_ok {k : Int} {c : List Int × Int × Int} (h : curOK k c) (hk : k < 1000000000000000) : ∃ v c', F67 ((), c) = some (v, c') ∧ (0 ≤ v ∧ v ≤ 255) ∧ curOK (k + 1) c' := by
  obtain ⟨c0, c1, c2⟩ := c
  obtain ⟨h1, h2, h3⟩ := h
  simp only at h1 h2 h3
  have w1 : w64 (c1 + 1) = c1 + 1 := w64_id (by omega) (by omega)
  rw [F67, F67_t]
  by_cases a : c1 < (c0.length : Int)
  · have hlt : c1.toNat < c0.length := by omega
    have hx := h1 c0[c1.toNat] (List.getElem_mem hlt)
    rw [T.run_test, if_pos (decide_eq_true a), T.run_test, if_pos (decide_eq_true (by omega)), T.run_sub, List.getElem?_eq_getElem hlt, Option.bind_some, T.run_test, if_pos (decide_eq_true (by rw [w1]; omega)), T.run_ret, w1]
    have w2 : w64 c0[c1.toNat] = c0[c1.toNat] := w64_id (by omega) (by omega)
    refine ⟨_, _, rfl, by rw [w2]; exact hx, h1, ?_, ?_⟩
    · show 0 ≤ c1 + 1; omega
    · show c1 + 1 ≤ k + 1; omega
  · rw [T.run_test, if_neg (by rw [decide_eq_true_eq]; exact a), T.run_test, if_neg (by rw [decide_eq_true_eq, w1]; omega), T.run_ret, w1]
    refine ⟨_, _, rfl, mask_ok _, h1, ?_, ?_⟩
    · show 0 ≤ c1 + 1; omega
    · show c1 + 1 ≤ k + 1; omega
theorem pick_ok {k : Int} {c : List Int × Int × Int} (n : Int) (h : curOK k c) (hk : k < 100000000000000) : ∃ v c', F68 (((), n), c) = some (v, c') ∧ 0 ≤ v ∧ (1 ≤ n → v < n) ∧ (n ≤ 1 → v = 0) ∧ curOK (k + 2) c' := by
  obtain ⟨c0, c1, c2⟩ := c
  rw [F68, F68_t]
  by_cases a : n ≤ 1
  · rw [T.run_test, if_pos (decide_eq_true a), T.run_ret]
    exact ⟨0, _, rfl, Int.le_refl _, fun h => by omega, fun _ => rfl, h.mono (by omega)⟩
  · obtain ⟨v, ⟨d0, d1, d2⟩, e, hv, hc⟩ := next_ok h (by omega)
    rw [T.run_test, if_neg (by rw [decide_eq_true_eq]; exact a), T.run_sub, e, Option.bind_some, T.run_test]
    by_cases b : n > 200
    · obtain ⟨u, ⟨f0, f1, f2⟩, e2, hu, hc2⟩ := next_ok hc (by omega)
      rw [if_pos (decide_eq_true b), T.run_sub, e2, Option.bind_some, T.run_test, if_pos (decide_eq_true (by omega)), T.run_ret]
      have w : w64 (w64 (v * 256) + u) = v * 256 + u := by rw [w64_id (z := v * 256) (by omega) (by omega), w64_id (by omega) (by omega)]
      refine ⟨_, _, rfl, ?_, fun _ => ?_, fun h => absurd h a, hc2.mono (by omega)⟩
      · rw [w]; exact Int.tmod_nonneg _ (by omega)
      · rw [w]; exact Int.tmod_lt_of_pos _ (by omega)
    · rw [if_neg (by rw [decide_eq_true_eq]; exact b), T.run_test, if_pos (decide_eq_true (by omega)), T.run_ret]
      exact ⟨_, _, rfl, Int.tmod_nonneg _ (by omega), fun _ => Int.tmod_lt_of_pos _ (by omega), fun h => absurd h a, hc.mono (by omega)⟩
theorem among_ok {k : Int} {c : List Int × Int × Int} (l : List Int) (h : curOK k c) (hk : k < 100000000000000) (hl : 1 ≤ l.length) : ∃ v c', F60 (((), l), c) = some (v, c') ∧ v ∈ l ∧ curOK (k + 2) c' := by
  obtain ⟨c0, c1, c2⟩ := c
  obtain ⟨v, ⟨d0, d1, d2⟩, e, h0, h1, _, hc⟩ := pick_ok (l.length : Int) h hk
  have h1 := h1 (by omega)
  have hlt : v.toNat < l.length := by omega
  rw [F60, F60_t, T.run_sub, e, Option.bind_some, T.run_test, if_pos (decide_eq_true (by omega)), T.run_sub, List.getElem?_eq_getElem hlt, Option.bind_some, T.run_ret]
  exact ⟨_, _, rfl, List.getElem_mem hlt, hc⟩
theorem one_ok {k : Int} {c : List Int × Int × Int} (n : Int) (h : curOK k c) (hk : k < 100000000000000) : ∃ v c', F82 (((), n), c) = some (v, c') ∧ curOK (k + 2) c' := by
  obtain ⟨c0, c1, c2⟩ := c
  obtain ⟨v, ⟨d0, d1, d2⟩, e, _, _, _, hc⟩ := pick_ok n h hk
  rw [F82, F82_t, T.run_sub, e, Option.bind_some, T.run_ret]
  exact ⟨_, _, rfl, hc⟩
def bytesOK (code : List Int) : Prop := ∀ x ∈ code, 0 ≤ x ∧ x ≤ 255
theorem cur0 {code : List Int} (h : bytesOK code) : curOK 0 (code, ((0 : Int), (0 : Int))) := ⟨h, Int.le_refl _, Int.le_refl _⟩


end Go.Proofs.W
