/- Functions of the program, walked, and what they compute. -/
import Derived.Test.YtaoeghfoifhhcaaGreatFnWk3
set_option linter.unusedVariables false
set_option linter.unusedSimpArgs false
set_option maxRecDepth 100000
set_option maxHeartbeats 4000000
namespace Go.Proofs.W
open Go Go.Gm Go.Proofs
open Go.RowKit Go.Shelf
def F69_sh : FSh := ⟨[(.one (.si .i64)), (.one (.sl (.pair (.int .i64) (.int .i64)) false false)), (.ag [(.si .i64), (.si .i64)])], []⟩

def F69_L7_sh : LSh := ⟨(fun ex => match ex with | .norm => [(5, none), (6, none), (7, none), (8, none), (15, none), (16, none), (17, none), (33, none), (34, none), (35, none)] | .exit i => if i = 2 then [(5, none), (6, none), (7, none), (8, none), (15, none), (16, none), (17, none)] else if i = 1 then [(5, none), (6, none), (7, none), (8, none), (15, none), (16, none), (17, none)] else if i = 0 then [(6, none), (7, none), (8, none)] else [] | .ret => [(6, none)]), [(5, (.one (.pf 0 0 0))), (6, (.one (.pf 1 0 0))), (7, (.one (.si .i64))), (8, (.one (.si .i64))), (15, (.one (.rw 2 0))), (16, (.one (.si .i64))), (17, (.one (.si .i64))), (33, (.one (.sl (.int .i64) false true))), (34, (.one (.si .i64))), (35, (.one (.si .i64)))], [(.rcd 0 [(.si .i64), (.si .i64)]), (.rcd 0 [(.si .i64), (.si .i64)]), (.row 0 (.list true (.int .i64)))], [⟨(.exit 2), [(5, (.one (.pf 0 0 0))), (6, (.one (.pf 1 0 0))), (7, (.one (.si .i64))), (8, (.one (.si .i64))), (15, (.one (.rw 2 0))), (16, (.one (.si .i64))), (17, (.one (.si .i64)))], [(.rcd 0 [(.si .i64), (.si .i64)]), (.rcd 0 [(.si .i64), (.si .i64)]), (.row 0 (.list true (.int .i64)))]⟩], [], []⟩
noncomputable def F69_L7_step : ((Unit × Unit × Int × Int × Unit × Int × Int × List (Int) × Int × Int) × ((Int × Int) × (Int × Int) × List (List (Int)))) → T (((Unit × Unit × Int × Int × Unit × Int × Int × List (Int) × Int × Int) × ((Int × Int) × (Int × Int) × List (List (Int)))) ⊕ ((Unit × Unit × Int × Int × Unit × Int × Int) × ((Int × Int) × (Int × Int) × List (List (Int))))) := fun (((), (), inside, outside, (), t16, t17, t33, t34, t35), ((d_0, d_1), (t6_0, t6_1), t15)) =>
 (.test (decide (t35 < t34))
 (.test (decide ((0 ≤ t35) ∧ (t35 < ((List.length t33) : Int))))
 (.sub (t33[(Int.toNat t35)]?) fun z0 =>
 (.test (z0 == d_0)
 (.test (decide ((0 = 0) ∧ ((List.length t15) = (List.length t15))))
 (.ret (Sum.inl (((), ((), (inside, (outside, ((), (t16, (t17, (t33, (t34, (w64 (t35 + 1))))))))))), ((d_0, d_1), ((t6_0, t6_1), t15)))))
 .fail)
 (.test (z0 == d_1)
 (.test (decide ((0 = 0) ∧ ((List.length t15) = (List.length t15))))
 (.ret (Sum.inl (((), ((), (inside, (outside, ((), (t16, (t17, (t33, (t34, (w64 (t35 + 1))))))))))), ((d_0, d_1), ((t6_0, t6_1), t15)))))
 .fail)
 (.sub (F76 (z0, (d_0, d_1))) fun z1 =>
 (.test z1
 (.test (decide ((0 = 0) ∧ ((List.length t15) = (List.length t15))))
 (.ret (Sum.inl (((), ((), (z0, (outside, ((), (t16, (t17, (t33, (t34, (w64 (t35 + 1))))))))))), ((d_0, d_1), ((t6_0, t6_1), t15)))))
 .fail)
 (.test (decide ((0 = 0) ∧ ((List.length t15) = (List.length t15))))
 (.ret (Sum.inl (((), ((), (inside, (z0, ((), (t16, (t17, (t33, (t34, (w64 (t35 + 1))))))))))), ((d_0, d_1), ((t6_0, t6_1), t15)))))
 .fail))))))
 .fail)
 (.test (decide ((0 = 0) ∧ ((List.length t15) = (List.length t15))))
 (.ret (Sum.inr (((), ((), (inside, (outside, ((), (t16, t17)))))), ((d_0, d_1), ((t6_0, t6_1), t15)))))
 .fail))
noncomputable def F69_L7 (v : ((Unit × Unit × Int × Int × Unit × Int × Int × List (Int) × Int × Int) × ((Int × Int) × (Int × Int) × List (List (Int))))) : Option ((Unit × Unit × Int × Int × Unit × Int × Int) × ((Int × Int) × (Int × Int) × List (List (Int)))) := loopO (fun v => (F69_L7_step v).run) v

def F69_L3_sh : LSh := ⟨(fun ex => match ex with | .norm => [(5, none), (6, none), (7, none), (8, none), (15, none), (16, none), (17, none)] | .exit i => if i = 0 then [(6, none), (7, none), (8, none)] else [] | .ret => [(6, none)]), [(5, (.one (.pf 0 0 0))), (6, (.one (.pf 1 0 0))), (7, (.one (.si .i64))), (8, (.one (.si .i64))), (15, (.one (.rw 2 0))), (16, (.one (.si .i64))), (17, (.one (.si .i64)))], [(.rcd 0 [(.si .i64), (.si .i64)]), (.rcd 0 [(.si .i64), (.si .i64)]), (.row 0 (.list true (.int .i64)))], [⟨(.exit 0), [(6, (.one (.pf 0 0 0))), (7, (.one (.si .i64))), (8, (.one (.si .i64)))], [(.rcd 0 [(.si .i64), (.si .i64)])]⟩], [], []⟩
noncomputable def F69_L3_step : ((Unit × Unit × Int × Int × Unit × Int × Int) × ((Int × Int) × (Int × Int) × List (List (Int)))) → T (((Unit × Unit × Int × Int × Unit × Int × Int) × ((Int × Int) × (Int × Int) × List (List (Int)))) ⊕ ((Unit × Int × Int) × (Int × Int))) := fun (((), (), inside, outside, (), t16, t17), ((d_0, d_1), (t6_0, t6_1), t15)) =>
 (.test (decide (t17 < t16))
 (.test (decide ((0 ≤ t17) ∧ (t17 < ((List.length t15) : Int))))
 (.sub (t15[(0 + (Int.toNat t17))]?) fun z0 =>
 (.sub (F19 (z0, d_0)) fun z1 =>
 (.test (! z1)
 (.test (decide ((0 = 0) ∧ ((List.length t15) = (List.length t15))))
 (.ret (Sum.inl (((), ((), (inside, (outside, ((), (t16, (w64 (t17 + 1)))))))), ((d_0, d_1), ((t6_0, t6_1), t15)))))
 .fail)
 (.sub (F19 (z0, d_1)) fun z2 =>
 (.test (! z2)
 (.test (decide ((0 = 0) ∧ ((List.length t15) = (List.length t15))))
 (.ret (Sum.inl (((), ((), (inside, (outside, ((), (t16, (w64 (t17 + 1)))))))), ((d_0, d_1), ((t6_0, t6_1), t15)))))
 .fail)
 (.test (decide ((0 = 0) ∧ ((List.length t15) = (List.length t15))))
 (.sub (F69_L7 (((), ((), (inside, (outside, ((), (t16, (t17, (z0, (((List.length z0) : Int), (0 : Int)))))))))), ((d_0, d_1), ((t6_0, t6_1), t15)))) fun z3 =>
 (.test (decide ((0 = 0) ∧ ((List.length z3.2.2.2) = (List.length z3.2.2.2))))
 (.ret (Sum.inl (((), ((), (z3.1.2.2.1, (z3.1.2.2.2.1, ((), (z3.1.2.2.2.2.2.1, (w64 (z3.1.2.2.2.2.2.2 + 1)))))))), z3.2)))
 .fail))
 .fail))))))
 .fail)
 (.ret (Sum.inr (((), (inside, outside)), (t6_0, t6_1)))))
noncomputable def F69_L3 (v : ((Unit × Unit × Int × Int × Unit × Int × Int) × ((Int × Int) × (Int × Int) × List (List (Int))))) : Option ((Unit × Int × Int) × (Int × Int)) := loopO (fun v => (F69_L3_step v).run) v

def F69_fo : List FO := [⟨[(.ag [(.si .i64), (.si .i64)])], []⟩]
noncomputable def F69_t : (Int × List ((Int × Int)) × (Int × Int)) → T (Int × Int) := fun (n, ds, (d_0, d_1)) =>
 (.sub (F59 (n, ds)) fun z0 =>
 (.test (decide ((0 = 0) ∧ ((List.length z0.2) = (List.length z0.2))))
 (.sub (F69_L3 (((), ((), ((-1), ((-1), ((), (((List.length z0.2) : Int), (0 : Int))))))), ((d_0, d_1), (((0 : Int), (0 : Int)), z0.2)))) fun z1 =>
 (.ret ((if (z1.1.2.2 < z1.1.2.1) then z1.1.2.2 else z1.1.2.1), (if (z1.1.2.2 > z1.1.2.1) then z1.1.2.2 else z1.1.2.1))))
 .fail))
noncomputable def F69 (v : (Int × List ((Int × Int)) × (Int × Int))) : Option (Int × Int) := (F69_t v).run
noncomputable def F69_E : TEnv := (((E0.add1 n_F59 F59_sh F59_fo F59).add1 n_F19 F19_sh F19_fo F19).add1 n_F76 F76_sh F76_fo F76)
theorem F69_Eok : (F69_E).OK := (((E0ok.add1 F59_ok).add1 F19_ok).add1 F76_ok)
noncomputable def F69_told : Nat → Option SealT := fun id => if id = 7 then some (LSh.told F69_L7_sh 0 (F69_L7_step)) else if id = 3 then some (LSh.told F69_L3_sh 0 (F69_L3_step)) else none
theorem F69_L7_ok : ToldOK Tryz.prog 0 (loopAt (bodyOf fn_F69) [0, 0]) (LSh.told F69_L7_sh 0 (F69_L7_step)) :=
  loop_ok (E := F69_E) (F69_Eok) (told := F69_told) (l := F69_L7_sh) (step := F69_L7_step) (loopsOK_of (ls := []) (by kernel_rfl) trivial) (by kernel_rfl) (fun v => by kernel_rfl)
theorem F69_L3_ok : ToldOK Tryz.prog 0 (loopAt (bodyOf fn_F69) [0]) (LSh.told F69_L3_sh 0 (F69_L3_step)) :=
  loop_ok (E := F69_E) (F69_Eok) (told := F69_told) (l := F69_L3_sh) (step := F69_L3_step) (loopsOK_of (ls := [loopAt (bodyOf fn_F69) [0, 0]]) (by kernel_rfl) ⟨.inr ⟨_, by kernel_rfl, F69_L7_ok⟩, trivial⟩) (by kernel_rfl) (fun v => by kernel_rfl)
theorem F69_ok : FOK Tryz.prog n_F69 F69_sh F69_fo F69 :=
  fn_ok (E := F69_E) (F69_Eok) (told := F69_told) (fl := []) (c := bodyOf fn_F69) (s := F69_sh) (l := F69_fo) (tree := F69_t) fnat_F69 (by kernel_rfl) (by kernel_rfl) (by kernel_rfl) (loopsOK_of (ls := [loopAt (bodyOf fn_F69) [0]]) (by kernel_rfl) ⟨.inr ⟨_, by kernel_rfl, F69_L3_ok⟩, trivial⟩) (fun v => by kernel_rfl)

def updO (d : Dg) (io : Int × Int) (c : Int) : Int × Int := if c = d.1 ∨ c = d.2 then io else if inB d.1 d.2 c = true then (c, io.2) else (io.1, c)
def upT (d : Dg) (io : Int × Int) (t : List Int) : Int × Int := if (t.any (fun x => d.1 == x) && t.any (fun x => d.2 == x)) = true then t.foldl (updO d) io else io
theorem F69_L7_eq (d t6 : Dg) (TT : List (List Int)) (t16 t17 : Int) (t : List Int) (hl : t.length ≤ 1000) : ∀ (m k : Nat) (io : Int × Int), k + m = t.length →
    F69_L7 (((), ((), (io.1, (io.2, ((), (t16, (t17, (t, ((t.length : Int), (k : Int)))))))))), (d, (t6, TT))) = some (((), ((), (((t.drop k).foldl (updO d) io).1, (((t.drop k).foldl (updO d) io).2, ((), (t16, t17)))))), (d, (t6, TT))) := by
  obtain ⟨x, y⟩ := d
  obtain ⟨u, v⟩ := t6
  intro m
  induction m with
  | zero =>
    intro k io hk
    rw [List.drop_of_length_le (by omega), List.foldl_nil]
    simp only [F69_L7]
    refine loopO_done ?_
    rw [F69_L7_step, T.run_test, if_neg (by rw [decide_eq_true_eq]; omega), T.run_test, if_pos (by simp), T.run_ret]
  | succ m ih =>
    intro k io hk
    have w1 : w64 ((k : Int) + 1) = ((k + 1 : Nat) : Int) := by rw [w64_id (by omega) (by omega)]; omega
    have hlt : k < t.length := by omega
    rw [List.drop_eq_getElem_cons hlt, List.foldl_cons, ← ih (k + 1) _ (by omega)]
    simp only [F69_L7]
    refine loopO_next ?_
    rw [F69_L7_step, T.run_test, if_pos (decide_eq_true (by omega)), T.run_test, if_pos (decide_eq_true (by omega)), T.run_sub, Int.toNat_natCast, List.getElem?_eq_getElem hlt, Option.bind_some, T.run_test]
    generalize t[k] = c
    unfold updO
    dsimp only
    by_cases c1 : c = x
    · rw [if_pos (by simp [c1]), T.run_test, if_pos (by simp), T.run_ret, w1, if_pos (.inl c1)]
    rw [if_neg (by simp [c1]), T.run_test]
    by_cases c2 : c = y
    · rw [if_pos (by simp [c2]), T.run_test, if_pos (by simp), T.run_ret, w1, if_pos (.inr c2)]
    rw [if_neg (by simp [c2]), T.run_sub, F76_eq, Option.bind_some, T.run_test, if_neg (show ¬ (c = x ∨ c = y) by omega)]
    cases hi : inB x y c with
    | true => rw [if_pos rfl, T.run_test, if_pos (by simp), T.run_ret, w1, if_pos rfl]
    | false => rw [if_neg (by decide), T.run_test, if_pos (by simp), T.run_ret, w1, if_neg (by decide)]
theorem F69_L3_eq (d t6 : Dg) (TT : List (List Int)) (hl : TT.length ≤ 100000) (ht : ∀ t ∈ TT, t.length ≤ 1000) : ∀ (m k : Nat) (io : Int × Int), k + m = TT.length →
    F69_L3 (((), ((), (io.1, (io.2, ((), ((TT.length : Int), (k : Int))))))), (d, (t6, TT))) = some (((), (((TT.drop k).foldl (upT d) io).1, ((TT.drop k).foldl (upT d) io).2)), t6) := by
  obtain ⟨x, y⟩ := d
  obtain ⟨u, v⟩ := t6
  intro m
  induction m with
  | zero =>
    intro k io hk
    rw [List.drop_of_length_le (by omega), List.foldl_nil]
    simp only [F69_L3]
    refine loopO_done ?_
    rw [F69_L3_step, T.run_test, if_neg (by rw [decide_eq_true_eq]; omega), T.run_ret]
  | succ m ih =>
    intro k io hk
    have w1 : w64 ((k : Int) + 1) = ((k + 1 : Nat) : Int) := by rw [w64_id (by omega) (by omega)]; omega
    have hlt : k < TT.length := by omega
    have hmem : TT[k] ∈ TT := List.getElem_mem hlt
    rw [List.drop_eq_getElem_cons hlt, List.foldl_cons, ← ih (k + 1) _ (by omega)]
    simp only [F69_L3]
    refine loopO_next ?_
    rw [F69_L3_step, T.run_test, if_pos (decide_eq_true (by omega)), T.run_test, if_pos (decide_eq_true (by omega)), T.run_sub, Int.toNat_natCast, Nat.zero_add, List.getElem?_eq_getElem hlt, Option.bind_some]
    have htl := ht _ hmem
    generalize TT[k] = t at *
    rw [T.run_sub, F19_eq t x (by omega), Option.bind_some, T.run_test]
    unfold upT
    dsimp only
    cases c1 : t.any (fun z => x == z) with
    | false => rw [if_pos (by rfl), T.run_test, if_pos (by simp), T.run_ret, w1, Bool.false_and, if_neg (by decide)]
    | true =>
      rw [if_neg (by decide), T.run_sub, F19_eq t y (by omega), Option.bind_some, T.run_test]
      cases c2 : t.any (fun z => y == z) with
      | false => rw [if_pos (by rfl), T.run_test, if_pos (by simp), T.run_ret, w1, Bool.and_false, if_neg (by decide)]
      | true =>
        have h7 := F69_L7_eq (x, y) (u, v) TT (TT.length : Int) (k : Int) t (by omega) t.length 0 io (by omega)
        rw [List.drop_zero] at h7
        have h7' : F69_L7 (((), ((), (io.1, (io.2, ((), ((TT.length : Int), ((k : Int), (t, ((t.length : Int), (0 : Int)))))))))), ((x, y), ((u, v), TT))) = _ := h7
        rw [if_neg (by decide), T.run_test, if_pos (by simp), T.run_sub, h7', Option.bind_some, T.run_test, if_pos (by simp), T.run_ret, Bool.and_true, if_pos rfl]
        dsimp only
        rw [w1]
theorem fold_hit {A : Type} (up : Int × Int → A → Int × Int) (ci co : Int) (tin tout : A) : ∀ (T : List A) (io : Int × Int), (∀ t ∈ T, ∀ io, (up io t = io ∧ t ≠ tin ∧ t ≠ tout) ∨ (up io t = (ci, io.2) ∧ t = tin) ∨ (up io t = (io.1, co) ∧ t = tout)) → tin ≠ tout →
    ((tin ∈ T ∨ io.1 = ci) → (T.foldl up io).1 = ci) ∧ ((tout ∈ T ∨ io.2 = co) → (T.foldl up io).2 = co)
  | [], io, _, _ => ⟨fun h => by rcases h with h | h; cases h; exact h, fun h => by rcases h with h | h; cases h; exact h⟩
  | t :: T, io, h, hne => by
    have ih := fold_hit up ci co tin tout T (up io t) (fun t ht => h t (List.mem_cons_of_mem _ ht)) hne
    rw [List.foldl_cons]
    rcases h t (by simp) io with ⟨e, n1, n2⟩ | ⟨e, n⟩ | ⟨e, n⟩
    · rw [e] at ih ⊢
      refine ⟨fun hh => ih.1 ?_, fun hh => ih.2 ?_⟩
      · rcases hh with hh | hh
        · rcases List.mem_cons.1 hh with hh | hh
          · exact absurd hh.symm n1
          · exact .inl hh
        · exact .inr hh
      · rcases hh with hh | hh
        · rcases List.mem_cons.1 hh with hh | hh
          · exact absurd hh.symm n2
          · exact .inl hh
        · exact .inr hh
    · rw [e] at ih ⊢
      refine ⟨fun _ => ih.1 (.inr rfl), fun hh => ih.2 ?_⟩
      rcases hh with hh | hh
      · rcases List.mem_cons.1 hh with hh | hh
        · exact absurd (n.symm.trans hh.symm) hne
        · exact .inl hh
      · exact .inr hh
    · rw [e] at ih ⊢
      refine ⟨fun hh => ih.1 ?_, fun _ => ih.2 (.inr rfl)⟩
      rcases hh with hh | hh
      · rcases List.mem_cons.1 hh with hh | hh
        · exact absurd (hh.trans n) hne
        · exact .inl hh
      · exact .inr hh
theorem trisL_mem {n : Nat} {ds : List Dg} {t : List Int} : t ∈ trisL n ds ↔ ∃ a b c : Nat, a < b ∧ b < c ∧ c < n ∧ t = [(a : Int), (b : Int), (c : Int)] ∧ jo n ds (a : Int) (b : Int) ∧ jo n ds (b : Int) (c : Int) ∧ jo n ds (a : Int) (c : Int) := by
  unfold trisL
  simp only [List.mem_flatMap, List.mem_range'_1]
  constructor
  · rintro ⟨a, ha, b, hb, c, hc, ht⟩
    unfold triN at ht
    split at ht
    · rename_i hj
      rw [List.mem_singleton] at ht
      exact ⟨a, b, c, by omega, by omega, by omega, ht, hj⟩
    · cases ht
  · rintro ⟨a, b, c, h1, h2, h3, ht, hj⟩
    exact ⟨a, by omega, b, by omega, c, by omega, by unfold triN; rw [if_pos hj, ht]; simp⟩
theorem F69_eq {n : Nat} {ds : List Dg} (h : isTri n ds = true) {d : Dg} (hd : d ∈ ds) : F69 ((n : Int), (ds, d)) = some (othD n ds d) := by
  obtain ⟨p, q, ht, hp0, hqn, hpq⟩ := thirds_two h hd
  have ho : othD n ds d = (p, q) := by unfold othD; rw [ht]
  have g := tri_rng h
  have gd := g.1 d hd
  have mp := thirds_mem.1 (show p ∈ thirds n ds d by rw [ht]; simp)
  have mq := thirds_mem.1 (show q ∈ thirds n ds d by rw [ht]; simp)
  obtain ⟨x, y⟩ := d
  dsimp only at gd hpq mp mq
  have jxy : jo n ds x y := (jo_lt (by omega)).2 (.inr (.inr hd))
  have mem : ∀ c : Int, 0 ≤ c → c < n → c ≠ x → c ≠ y → jo n ds c x → jo n ds c y → c = p ∨ c = q := by
    intro c h1 h2 h3 h4 h5 h6
    have := thirds_mem (n := n) (ds := ds) (d := (x, y)) (c := c)
    rw [ht] at this
    simp only [List.mem_cons, List.not_mem_nil, or_false] at this
    exact this.2 ⟨⟨h1, h2⟩, h3, h4, h5, h6⟩
  obtain ⟨X, rfl⟩ := Int.eq_ofNat_of_zero_le gd.1
  obtain ⟨Y, rfl⟩ := Int.eq_ofNat_of_zero_le (show 0 ≤ y by omega)
  obtain ⟨P, rfl⟩ := Int.eq_ofNat_of_zero_le hp0
  obtain ⟨Q, rfl⟩ := Int.eq_ofNat_of_zero_le (show 0 ≤ q by omega)
  have inj3 : ∀ a b c a' b' c' : Nat, [(a : Int), (b : Int), (c : Int)] = [(a' : Int), (b' : Int), (c' : Int)] ↔ a = a' ∧ b = b' ∧ c = c' := by
    intro a b c a' b' c'
    simp
    omega
  -- the inner and the outer third corner
  have main : ∀ ci co tin0 tin1 tin2 tout0 tout1 tout2 : Nat, X < ci → ci < Y → (co < X ∨ Y < co) → tin0 = X → tin1 = ci → tin2 = Y →
      ((co < X ∧ tout0 = co ∧ tout1 = X ∧ tout2 = Y) ∨ (Y < co ∧ tout0 = X ∧ tout1 = Y ∧ tout2 = co)) → co < n →
      ((ci = P ∧ co = Q) ∨ (ci = Q ∧ co = P)) → (trisL n ds).foldl (upT ((X : Int), (Y : Int))) (-1, -1) = ((ci : Int), (co : Int)) := by
    intro ci co tin0 tin1 tin2 tout0 tout1 tout2 h1 h2 h3 e0 e1 e2 h4 h5 h6
    have jci : jo n ds (ci : Int) (X : Int) ∧ jo n ds (ci : Int) (Y : Int) := by rcases h6 with ⟨a, b⟩ | ⟨a, b⟩ <;> subst a <;> first | exact mp.2.2.2 | exact mq.2.2.2
    have jco : jo n ds (co : Int) (X : Int) ∧ jo n ds (co : Int) (Y : Int) := by rcases h6 with ⟨a, b⟩ | ⟨a, b⟩ <;> subst b <;> first | exact mq.2.2.2 | exact mp.2.2.2
    have hf := fold_hit (upT ((X : Int), (Y : Int))) (ci : Int) (co : Int) [(tin0 : Int), (tin1 : Int), (tin2 : Int)] [(tout0 : Int), (tout1 : Int), (tout2 : Int)] (trisL n ds) (-1, -1) (fun t htm io => by
      obtain ⟨a, b, c, l1, l2, l3, rfl, j1, j2, j3⟩ := trisL_mem.1 htm
      have hup : upT ((X : Int), (Y : Int)) io [(a : Int), (b : Int), (c : Int)] = if (X = a ∨ X = b ∨ X = c) ∧ (Y = a ∨ Y = b ∨ Y = c) then [(a : Int), (b : Int), (c : Int)].foldl (updO ((X : Int), (Y : Int))) io else io := by
        unfold upT
        congr 1
        simp [Int.natCast_inj]
      rw [hup]
      simp only [inj3, ne_eq]
      by_cases hc : (X = a ∨ X = b ∨ X = c) ∧ (Y = a ∨ Y = b ∨ Y = c)
      · rw [if_pos hc]
        simp only [List.foldl_cons, List.foldl_nil]
        rcases (by omega : (X = a ∧ Y = b) ∨ (X = a ∧ Y = c) ∨ (X = b ∧ Y = c)) with ⟨rfl, rfl⟩ | ⟨rfl, rfl⟩ | ⟨rfl, rfl⟩
        · have hcc := mem (c : Int) (by omega) (by omega) (by omega) (by omega) ((jo_comm _ _ _ _).1 j3) ((jo_comm _ _ _ _).1 j2)
          have u1 : updO ((X : Int), (Y : Int)) io (X : Int) = io := by unfold updO; rw [if_pos (.inl rfl)]
          have u2 : updO ((X : Int), (Y : Int)) io (Y : Int) = io := by unfold updO; rw [if_pos (.inr rfl)]
          have u3 : updO ((X : Int), (Y : Int)) io (c : Int) = (io.1, (c : Int)) := by
            unfold updO
            rw [if_neg (by dsimp only; omega), if_neg (by rw [inB_iff]; dsimp only; omega)]
          rw [u1, u2, u3]
          refine .inr (.inr ⟨?_, by omega⟩)
          rw [show c = co by omega]
        · have hcc := mem (b : Int) (by omega) (by omega) (by omega) (by omega) ((jo_comm _ _ _ _).1 j1) j2
          have u1 : updO ((X : Int), (Y : Int)) io (X : Int) = io := by unfold updO; rw [if_pos (.inl rfl)]
          have u3 : updO ((X : Int), (Y : Int)) io (b : Int) = ((b : Int), io.2) := by
            unfold updO
            rw [if_neg (by dsimp only; omega), if_pos (by rw [inB_iff]; dsimp only; omega)]
          have u2 : updO ((X : Int), (Y : Int)) ((b : Int), io.2) (Y : Int) = ((b : Int), io.2) := by unfold updO; rw [if_pos (.inr rfl)]
          rw [u1, u3, u2]
          refine .inr (.inl ⟨?_, by omega⟩)
          rw [show b = ci by omega]
        · have hcc := mem (a : Int) (by omega) (by omega) (by omega) (by omega) j1 j3
          have u3 : updO ((X : Int), (Y : Int)) io (a : Int) = (io.1, (a : Int)) := by
            unfold updO
            rw [if_neg (by dsimp only; omega), if_neg (by rw [inB_iff]; dsimp only; omega)]
          have u1 : updO ((X : Int), (Y : Int)) (io.1, (a : Int)) (X : Int) = (io.1, (a : Int)) := by unfold updO; rw [if_pos (.inl rfl)]
          have u2 : updO ((X : Int), (Y : Int)) (io.1, (a : Int)) (Y : Int) = (io.1, (a : Int)) := by unfold updO; rw [if_pos (.inr rfl)]
          rw [u3, u1, u2]
          refine .inr (.inr ⟨?_, by omega⟩)
          rw [show a = co by omega]
      · rw [if_neg hc]
        exact .inl ⟨rfl, by omega, by omega⟩) (by rw [ne_eq, inj3]; omega)
    have k1 := hf.1 (.inl (trisL_mem.2 ⟨tin0, tin1, tin2, by omega, by omega, by omega, rfl, by rw [e0, e1]; exact (jo_comm _ _ _ _).1 jci.1, by rw [e1, e2]; exact jci.2, by rw [e0, e2]; exact jxy⟩))
    have k2 := hf.2 (.inl (trisL_mem.2 (by
      rcases h4 with ⟨a0, a1, a2, a3⟩ | ⟨a0, a1, a2, a3⟩
      · exact ⟨tout0, tout1, tout2, by omega, by omega, by omega, rfl, by rw [a1, a2]; exact jco.1, by rw [a2, a3]; exact jxy, by rw [a1, a3]; exact jco.2⟩
      · exact ⟨tout0, tout1, tout2, by omega, by omega, by omega, rfl, by rw [a1, a2]; exact jxy, by rw [a2, a3]; exact (jo_comm _ _ _ _).1 jco.2, by rw [a1, a3]; exact (jo_comm _ _ _ _).1 jco.1⟩)))
    exact Prod.ext k1 k2
  have htl : (trisL n ds).length ≤ 100000 := by
    unfold trisL
    have i1 : ∀ a b : Nat, ((List.range' (b + 1) (n - (b + 1))).flatMap (triN n ds a b)).length ≤ 12 := by
      intro a b
      have := flat_len (triN n ds a b) 1 (triN_len n ds a b) (List.range' (b + 1) (n - (b + 1)))
      rw [List.length_range'] at this
      omega
    have i2 : ∀ a : Nat, ((List.range' (a + 1) (n - (a + 1))).flatMap fun b => (List.range' (b + 1) (n - (b + 1))).flatMap (triN n ds a b)).length ≤ 144 := by
      intro a
      have := flat_len (fun b => (List.range' (b + 1) (n - (b + 1))).flatMap (triN n ds a b)) 12 (i1 a) (List.range' (a + 1) (n - (a + 1)))
      rw [List.length_range'] at this
      omega
    have := flat_len (fun a => (List.range' (a + 1) (n - (a + 1))).flatMap fun b => (List.range' (b + 1) (n - (b + 1))).flatMap (triN n ds a b)) 144 i2 (List.range' 0 n)
    rw [List.length_range'] at this
    omega
  have h3 := F69_L3_eq ((X : Int), (Y : Int)) (0, 0) (trisL n ds) htl (fun t ht => by
    obtain ⟨a, b, c, _, _, _, rfl, _⟩ := trisL_mem.1 ht
    simp) (trisL n ds).length 0 (-1, -1) (by omega)
  rw [List.drop_zero] at h3
  have h3' : F69_L3 (((), ((), ((-1), ((-1), ((), (((trisL n ds).length : Int), (0 : Int))))))), (((X : Int), (Y : Int)), (((0 : Int), (0 : Int)), trisL n ds))) = _ := h3
  rw [F69, F69_t, T.run_sub, F59_eq h, Option.bind_some, T.run_test, if_pos (by simp), T.run_sub, h3', Option.bind_some, T.run_ret, ho]
  rcases hpq with hh | hh
  · rw [main Q P X Q Y P X Y (by omega) (by omega) (by omega) rfl rfl rfl (by omega) (by omega) (by omega)]
    dsimp only
    rw [if_pos (by omega), if_neg (by omega)]
  · rw [main P Q X P Y X Y Q (by omega) (by omega) (by omega) rfl rfl rfl (by omega) (by omega) (by omega)]
    dsimp only
    rw [if_neg (by omega), if_pos (by omega)]


def F48_sh : FSh := ⟨[.one (.si .u64)], []⟩
def F48_fo : List FO := [⟨[.one (.si .i64)], []⟩]
def F48 (x : Int) : Option Int := if 0 ≤ x ∧ x ≤ 18446744073709551615 then some (Lib.bitLen x.toNat : Int) else none
def F48_ren : Shelf.Ren := ⟨fun k => if k = 125 then n_F48 else if k = 128 then 240 else 241, fun t => if t = 3 then 3 else if t = 4 then 4 else if t = 5 then 5 else if t = 9 then 9 else if t = 46 then 151 else if t = 51 then 166 else 104, fun x => x⟩
theorem F48_lay : Lays.n125 Tryz.prog F48_ren :=
  { mixed := by kernel_rfl, f125 := by kernel_rfl, f128 := by kernel_rfl, f129 := by kernel_rfl, t3 := by kernel_rfl, a3 := fun w => by kernel_rfl, z3 := fun w => by kernel_rfl, v3 := fun w => by kernel_rfl, t4 := by kernel_rfl, a4 := fun w => by kernel_rfl, z4 := fun w => by kernel_rfl, v4 := fun w => by kernel_rfl, t5 := by kernel_rfl, a5 := fun w => by kernel_rfl, z5 := fun w => by kernel_rfl, v5 := fun w => by kernel_rfl, t9 := by kernel_rfl, a9 := fun w => by kernel_rfl, z9 := fun w => by kernel_rfl, v9 := fun w => by kernel_rfl, t46 := by kernel_rfl, a46 := fun w => by kernel_rfl, z46 := fun w => by kernel_rfl, v46 := fun w => by kernel_rfl, t51 := by kernel_rfl, a51 := fun w => by kernel_rfl, z51 := fun w => by kernel_rfl, v51 := fun w => by kernel_rfl, t53 := by kernel_rfl, a53 := fun w => by kernel_rfl, z53 := fun w => by kernel_rfl, v53 := fun w => by kernel_rfl }
theorem F48_ok : FOK Tryz.prog n_F48 F48_sh F48_fo F48 :=
  bitsLen_ok ⟨_, fnat_F48, by kernel_rfl, by kernel_rfl⟩ (ρr := F48_ren) rfl F48_lay

def F0_sh : FSh := ⟨[(.one (.rw 0 0)), (.one (.si .i64)), (.one (.si .i64)), (.one (.fn n_F23))], [(.row 0 (.pair (.int .i64) (.int .i64)))]⟩

def F0_L4_sh : LSh := ⟨(fun ex => match ex with | .norm => [(0, none), (1, none), (2, none), (3, none), (8, none), (9, none)] | .exit i => if i = 2 then [(0, none), (1, none), (2, none), (3, none), (8, none)] else if i = 1 then [(0, none), (1, none), (2, none), (3, none), (8, none)] else if i = 0 then [] else [] | .ret => []), [(0, (.one (.rw 0 0))), (1, (.one (.si .i64))), (2, (.one (.si .i64))), (3, (.one (.fn n_F23))), (8, (.one (.si .i64))), (9, (.one (.si .i64)))], [(.row 0 (.pair (.int .i64) (.int .i64)))], [⟨(.exit 2), [(0, (.one (.rw 0 0))), (1, (.one (.si .i64))), (2, (.one (.si .i64))), (3, (.one (.fn n_F23))), (8, (.one (.si .i64)))], [(.row 0 (.pair (.int .i64) (.int .i64)))]⟩], [], []⟩
noncomputable def F0_L4_step : ((Unit × Int × Int × Unit × Int × Int) × List ((Int × Int))) → T (((Unit × Int × Int × Unit × Int × Int) × List ((Int × Int))) ⊕ ((Unit × Int × Int × Unit × Int) × List ((Int × Int)))) := fun (((), a, b, (), i, j), data) =>
 (.test (decide (j > a))
 (.test (decide ((0 ≤ j) ∧ (j < ((List.length data) : Int))))
 (.sub (data[(0 + (Int.toNat j))]?) fun z0 =>
 (.test (decide ((0 ≤ (w64 (j - 1))) ∧ ((w64 (j - 1)) < ((List.length data) : Int))))
 (.sub (data[(0 + (Int.toNat (w64 (j - 1))))]?) fun z1 =>
 (.sub (F23 ((z0.1, z0.2), (z1.1, z1.2))) fun z2 =>
 (.test (decide (z2 < 0))
 (.test (decide ((0 ≤ (w64 (j - 1))) ∧ ((w64 (j - 1)) < ((List.length data) : Int))))
 (.sub (data[(0 + (Int.toNat (w64 (j - 1))))]?) fun z3 =>
 (.test (decide ((0 ≤ j) ∧ (j < ((List.length data) : Int))))
 (.sub (data[(0 + (Int.toNat j))]?) fun z4 =>
 (.test (decide ((0 ≤ j) ∧ (j < ((List.length data) : Int))))
 (.sub (data[(0 + (Int.toNat j))]?) fun z5 =>
 (.test (decide ((0 ≤ (w64 (j - 1))) ∧ ((w64 (j - 1)) < ((List.length data) : Int))))
 (.sub ((List.set data (0 + (Int.toNat j)) (z3.1, z3.2))[(0 + (Int.toNat (w64 (j - 1))))]?) fun z6 =>
 (.test (decide ((0 = 0) ∧ ((List.length data) = (List.length (List.set (List.set data (0 + (Int.toNat j)) (z3.1, z3.2)) (0 + (Int.toNat (w64 (j - 1)))) (z4.1, z4.2))))))
 (.ret (Sum.inl (((), (a, (b, ((), (i, (w64 (j - 1))))))), (List.set (List.set data (0 + (Int.toNat j)) (z3.1, z3.2)) (0 + (Int.toNat (w64 (j - 1)))) (z4.1, z4.2)))))
 .fail))
 .fail))
 .fail))
 .fail))
 .fail)
 (.test (decide ((0 = 0) ∧ ((List.length data) = (List.length data))))
 (.ret (Sum.inr (((), (a, (b, ((), i)))), data)))
 .fail))))
 .fail))
 .fail)
 (.test (decide ((0 = 0) ∧ ((List.length data) = (List.length data))))
 (.ret (Sum.inr (((), (a, (b, ((), i)))), data)))
 .fail))
noncomputable def F0_L4 (v : ((Unit × Int × Int × Unit × Int × Int) × List ((Int × Int)))) : Option ((Unit × Int × Int × Unit × Int) × List ((Int × Int))) := loopO (fun v => (F0_L4_step v).run) v

def F0_L1_sh : LSh := ⟨(fun ex => match ex with | .norm => [(0, none), (1, none), (2, none), (3, none), (8, none)] | .exit i => if i = 0 then [] else [] | .ret => []), [(0, (.one (.rw 0 0))), (1, (.one (.si .i64))), (2, (.one (.si .i64))), (3, (.one (.fn n_F23))), (8, (.one (.si .i64)))], [(.row 0 (.pair (.int .i64) (.int .i64)))], [⟨(.exit 0), [], [(.row 0 (.pair (.int .i64) (.int .i64)))]⟩], [], []⟩
noncomputable def F0_L1_step : ((Unit × Int × Int × Unit × Int) × List ((Int × Int))) → T (((Unit × Int × Int × Unit × Int) × List ((Int × Int))) ⊕ (Unit × List ((Int × Int)))) := fun (((), a, b, (), i), data) =>
 (.test (decide (i < b))
 (.test (decide ((0 = 0) ∧ ((List.length data) = (List.length data))))
 (.sub (F0_L4 (((), (a, (b, ((), (i, i))))), data)) fun z0 =>
 (.test (decide ((0 = 0) ∧ ((List.length z0.2) = (List.length z0.2))))
 (.ret (Sum.inl (((), (z0.1.2.1, (z0.1.2.2.1, ((), (w64 (z0.1.2.2.2.2 + 1)))))), z0.2)))
 .fail))
 .fail)
 (.ret (Sum.inr ((), data))))
noncomputable def F0_L1 (v : ((Unit × Int × Int × Unit × Int) × List ((Int × Int)))) : Option (Unit × List ((Int × Int))) := loopO (fun v => (F0_L1_step v).run) v

def F0_fo : List FO := [⟨[], [(.row 0 (.pair (.int .i64) (.int .i64)))]⟩]
noncomputable def F0_t : ((Unit × Int × Int × Unit) × List ((Int × Int))) → T (Unit × List ((Int × Int))) := fun (((), a, b, ()), data) =>
 (.test (decide ((0 = 0) ∧ ((List.length data) = (List.length data))))
 (.sub (F0_L1 (((), (a, (b, ((), (w64 (a + 1)))))), data)) fun z0 =>
 (.ret ((), z0.2)))
 .fail)
noncomputable def F0 (v : ((Unit × Int × Int × Unit) × List ((Int × Int)))) : Option (Unit × List ((Int × Int))) := (F0_t v).run
noncomputable def F0_E : TEnv := (E0.add1 n_F23 F23_sh F23_fo F23)
theorem F0_Eok : (F0_E).OK := (E0ok.add1 F23_ok)
noncomputable def F0_told : Nat → Option SealT := fun id => if id = 4 then some (LSh.told F0_L4_sh 1 (F0_L4_step)) else if id = 1 then some (LSh.told F0_L1_sh 1 (F0_L1_step)) else none
theorem F0_L4_ok : ToldOK Tryz.prog 1 (loopAt (bodyOf fn_F7) [0, 0]) (LSh.told F0_L4_sh 1 (F0_L4_step)) :=
  loop_ok (E := F0_E) (F0_Eok) (told := F0_told) (l := F0_L4_sh) (step := F0_L4_step) (loopsOK_of (ls := []) (by kernel_rfl) trivial) (by kernel_rfl) (fun v => by kernel_rfl)
theorem F0_L1_ok : ToldOK Tryz.prog 1 (loopAt (bodyOf fn_F7) [0]) (LSh.told F0_L1_sh 1 (F0_L1_step)) :=
  loop_ok (E := F0_E) (F0_Eok) (told := F0_told) (l := F0_L1_sh) (step := F0_L1_step) (loopsOK_of (ls := [loopAt (bodyOf fn_F7) [0, 0]]) (by kernel_rfl) ⟨.inr ⟨_, by kernel_rfl, F0_L4_ok⟩, trivial⟩) (by kernel_rfl) (fun v => by kernel_rfl)
theorem F0_ok : FOK Tryz.prog n_F7 F0_sh F0_fo F0 :=
  fn_ok (E := F0_E) (F0_Eok) (told := F0_told) (fl := []) (c := bodyOf fn_F7) (s := F0_sh) (l := F0_fo) (tree := F0_t) fnat_F7 (by kernel_rfl) (by kernel_rfl) (by kernel_rfl) (loopsOK_of (ls := [loopAt (bodyOf fn_F7) [0]]) (by kernel_rfl) ⟨.inr ⟨_, by kernel_rfl, F0_L1_ok⟩, trivial⟩) (fun v => by kernel_rfl)

theorem F0_sink (b i : Int) : ∀ (j : Nat) (l : List Dg), j < l.length → l.length < 1000000 →
    F0_L4 (((), ((0 : Int), (b, ((), (i, (j : Int)))))), l) = some (((), ((0 : Int), (b, ((), i)))), sinkD j l)
  | 0, l, hj, hl => by
    simp only [F0_L4]
    exact loopO_done (by simp [F0_L4_step, T.run, sinkD])
  | j + 1, l, hj, hl => by
    have ih := F0_sink b i j (swapD l j) (by rw [swapD_length]; omega) (by rw [swapD_length]; omega)
    simp only [F0_L4] at ih ⊢
    have w1 : w64 (((j + 1 : Nat) : Int) - 1) = (j : Int) := by rw [w64_id (by omega) (by omega)]; omega
    have c0 : ((j + 1 : Nat) : Int) > 0 := by omega
    have c1 : (0 : Int) ≤ ((j + 1 : Nat) : Int) ∧ ((j + 1 : Nat) : Int) < (l.length : Int) := by omega
    have c2 : (0 : Int) ≤ (j : Int) ∧ (j : Int) < (l.length : Int) := by omega
    have g1 := gD_some hj
    have g2 := gD_some (show j < l.length by omega)
    cases hlt : ltD (gD l (j + 1)) (gD l j) with
    | false =>
      have e : sinkD (j + 1) l = l := by unfold sinkD; rw [hlt]; rfl
      rw [e]
      refine loopO_done ?_
      simp only [F0_L4_step, T.run, w1, c0, c1, c2, Int.toNat_natCast, Nat.zero_add, g1, g2, Option.bind_some, decide_true, if_true, F23_eq, cmpD_lt, hlt, and_self]
      simp
    | true =>
      have e : sinkD (j + 1) l = sinkD j (swapD l j) := by conv => lhs; unfold sinkD
                                                           rw [hlt]; rfl
      rw [e, ← ih]
      refine loopO_next ?_
      have g3 : (l.set (j + 1) (gD l j))[j]? = some (gD l j) := by rw [List.getElem?_set_ne (by omega)]; exact g2
      simp only [F0_L4_step, T.run, w1, c0, c1, c2, Int.toNat_natCast, Nat.zero_add, g1, g2, g3, Option.bind_some, decide_true, if_true, F23_eq, cmpD_lt, hlt, and_self]
      simp [swapD]
theorem F0_isort : ∀ (n i : Nat) (l : List Dg), i + n = l.length → l.length < 1000000 →
    F0_L1 (((), ((0 : Int), ((l.length : Int), ((), (i : Int))))), l) = some ((), isortD n i l)
  | 0, i, l, hi, hl => by
    simp only [F0_L1]
    refine loopO_done ?_
    have : ¬ ((i : Int) < (l.length : Int)) := by omega
    simp [F0_L1_step, T.run, this, isortD]
  | n + 1, i, l, hi, hl => by
    have ih := F0_isort n (i + 1) (sinkD i l) (by rw [sinkD_length]; omega) (by rw [sinkD_length]; omega)
    rw [sinkD_length] at ih
    simp only [F0_L1] at ih ⊢
    show _ = some ((), isortD n (i + 1) (sinkD i l))
    rw [← ih]
    refine loopO_next ?_
    have c0 : (i : Int) < (l.length : Int) := by omega
    have w1 : w64 ((i : Int) + 1) = ((i + 1 : Nat) : Int) := by rw [w64_id (by omega) (by omega)]; omega
    simp only [F0_L1_step, T.run, c0, decide_true, if_true, F0_sink _ _ i l (by omega) hl, Option.bind_some, w1, and_self]


def F1_sh : FSh := ⟨[(.one (.rw 0 0)), (.one (.si .i64)), (.one (.si .i64)), (.one (.si .i64)), (.one (.fn n_F23))], [(.row 0 (.pair (.int .i64) (.int .i64)))]⟩

def F1_L2_sh : LSh := ⟨(fun ex => match ex with | .norm => [(0, none), (1, none), (2, none), (3, none), (4, none), (10, none), (11, none)] | .exit i => if i = 0 then [] else [] | .ret => []), [(0, (.one (.rw 0 0))), (1, (.one (.si .i64))), (2, (.one (.si .i64))), (3, (.one (.si .i64))), (4, (.one (.fn n_F23))), (10, (.one .sb)), (11, (.one .sb))], [(.row 0 (.pair (.int .i64) (.int .i64)))], [⟨.ret, [], [(.row 0 (.pair (.int .i64) (.int .i64)))]⟩], [], []⟩
noncomputable def F1_L2_step : ((Unit × Int × Int × Int × Unit × Bool × Bool) × List ((Int × Int))) → T (((Unit × Int × Int × Int × Unit × Bool × Bool) × List ((Int × Int))) ⊕ (Unit × List ((Int × Int)))) := fun (((), a, b, limit, (), wasBalanced, wasPartitioned), data) =>
 (.test (decide ((w64 (b - a)) ≤ 12))
 (.test (decide ((0 = 0) ∧ ((List.length data) = (List.length data))))
 (.sub (F0 (((), (a, (b, ()))), data)) fun z0 =>
 (.ret (Sum.inr ((), z0.2))))
 .fail)
 (.test (limit == 0)
 .fail
 (.test (! wasBalanced)
 .fail
 .fail)))
noncomputable def F1_L2 (v : ((Unit × Int × Int × Int × Unit × Bool × Bool) × List ((Int × Int)))) : Option (Unit × List ((Int × Int))) := loopO (fun v => (F1_L2_step v).run) v

def F1_fo : List FO := [⟨[], [(.row 0 (.pair (.int .i64) (.int .i64)))]⟩]
noncomputable def F1_t : ((Unit × Int × Int × Int × Unit) × List ((Int × Int))) → T (Unit × List ((Int × Int))) := fun (((), a, b, limit, ()), data) =>
 (.test (decide ((0 = 0) ∧ ((List.length data) = (List.length data))))
 (.sub (F1_L2 (((), (a, (b, (limit, ((), (true, true)))))), data)) fun z0 =>
 (.ret ((), z0.2)))
 .fail)
noncomputable def F1 (v : ((Unit × Int × Int × Int × Unit) × List ((Int × Int)))) : Option (Unit × List ((Int × Int))) := (F1_t v).run
noncomputable def F1_E : TEnv := (E0.add1 n_F7 F0_sh F0_fo F0)
theorem F1_Eok : (F1_E).OK := (E0ok.add1 F0_ok)
noncomputable def F1_told : Nat → Option SealT := fun id => if id = 2 then some (LSh.told F1_L2_sh 1 (F1_L2_step)) else none
theorem F1_L2_ok : ToldOK Tryz.prog 1 (loopAt (bodyOf fn_F8) [0]) (LSh.told F1_L2_sh 1 (F1_L2_step)) :=
  loop_ok (E := F1_E) (F1_Eok) (told := F1_told) (l := F1_L2_sh) (step := F1_L2_step) (loopsOK_of (ls := []) (by kernel_rfl) trivial) (by kernel_rfl) (fun v => by kernel_rfl)
theorem F1_ok : FOK Tryz.prog n_F8 F1_sh F1_fo F1 :=
  fn_ok (E := F1_E) (F1_Eok) (told := F1_told) (fl := []) (c := bodyOf fn_F8) (s := F1_sh) (l := F1_fo) (tree := F1_t) fnat_F8 (by kernel_rfl) (by kernel_rfl) (by kernel_rfl) (loopsOK_of (ls := [loopAt (bodyOf fn_F8) [0]]) (by kernel_rfl) ⟨.inr ⟨_, by kernel_rfl, F1_L2_ok⟩, trivial⟩) (fun v => by kernel_rfl)

def F6_sh : FSh := ⟨[(.one (.rw 0 0)), (.one (.fn n_F23))], [(.row 0 (.pair (.int .i64) (.int .i64)))]⟩

def F6_fo : List FO := [⟨[], [(.row 0 (.pair (.int .i64) (.int .i64)))]⟩]
noncomputable def F6_t : ((Unit × Unit) × List ((Int × Int))) → T (Unit × List ((Int × Int))) := fun (((), ()), x) =>
 (.sub (F48 (wu64 ((List.length x) : Int))) fun z0 =>
 (.test (decide ((0 = 0) ∧ ((List.length x) = (List.length x))))
 (.sub (F1 (((), ((0 : Int), (((List.length x) : Int), (z0, ())))), x)) fun z1 =>
 (.ret ((), z1.2)))
 .fail))
noncomputable def F6 (v : ((Unit × Unit) × List ((Int × Int)))) : Option (Unit × List ((Int × Int))) := (F6_t v).run
noncomputable def F6_E : TEnv := ((E0.add1 n_F48 F48_sh F48_fo F48).add1 n_F8 F1_sh F1_fo F1)
theorem F6_Eok : (F6_E).OK := ((E0ok.add1 F48_ok).add1 F1_ok)
noncomputable def F6_told : Nat → Option SealT := fun id => none
theorem F6_ok : FOK Tryz.prog n_F13 F6_sh F6_fo F6 :=
  fn_ok (E := F6_E) (F6_Eok) (told := F6_told) (fl := []) (c := bodyOf fn_F13) (s := F6_sh) (l := F6_fo) (tree := F6_t) fnat_F13 (by kernel_rfl) (by kernel_rfl) (by kernel_rfl) (loopsOK_of (ls := []) (by kernel_rfl) trivial) (fun v => by kernel_rfl)

theorem F6_eq (l : List Dg) (hl : l.length ≤ 12) : F6 (((), ()), l) = some ((), sortD l) := by
  have hw : wu64 (l.length : Int) = (l.length : Int) := IntWalk.u64_in _ ⟨by omega, by omega⟩
  have hz : F48 (wu64 (l.length : Int)) = some (Lib.bitLen l.length : Int) := by
    rw [hw]; unfold F48; rw [if_pos ⟨by omega, by omega⟩, Int.toNat_natCast]
  have w0 : w64 ((l.length : Int) - 0) = (l.length : Int) := by rw [w64_id (by omega) (by omega)]; omega
  have w1 : w64 ((0 : Int) + 1) = ((1 : Nat) : Int) := by rw [w64_id (by omega) (by omega)]; rfl
  have c0 : (l.length : Int) ≤ 12 := by omega
  have hins : F0 (((), ((0 : Int), ((l.length : Int), ()))), l) = some ((), sortD l) := by
    simp only [F0, F0_t, T.run, w1]
    by_cases h0 : l.length = 0
    · have : l = [] := List.eq_nil_of_length_eq_zero h0
      subst this
      simp only [F0_L1]
      rw [loopO_done (o := ((), []))]
      · simp [sortD]
      · simp [F0_L1_step, T.run]
    · rw [F0_isort (l.length - 1) 1 l (by omega) (by omega), isortD_eq]
      simp
  simp only [F6, F6_t, T.run, hz, Option.bind_some, F1, F1_t, F1_L2]
  rw [loopO_done (o := ((), sortD l))]
  · simp
  · simp only [F1_L2_step, T.run, w0, c0, decide_true, if_true, hins, Option.bind_some]
    simp


def F70_sh : FSh := ⟨[(.one (.si .i64)), (.one (.sl (.pair (.int .i64) (.int .i64)) false false)), (.ag [(.si .i64), (.si .i64)])], []⟩

def F70_fo : List FO := [⟨[(.one (.rw 0 0))], [(.row 0 (.pair (.int .i64) (.int .i64)))]⟩]
noncomputable def F70_t : (Int × List ((Int × Int)) × (Int × Int)) → T (Unit × List ((Int × Int))) := fun (n, ds, (d_0, d_1)) =>
 (.sub (F15 ds) fun z0 =>
 (.test (decide ((0 + (List.length z0.2)) ≤ (List.length z0.2)))
 (.sub (F14 ((win z0.2 0 (List.length z0.2)), (d_0, d_1))) fun z1 =>
 (.sub (F69 (n, (ds, (d_0, d_1)))) fun z2 =>
 (.test (decide ((0 ≤ z1) ∧ (z1 < ((List.length z0.2) : Int))))
 (.sub (z0.2[(0 + (Int.toNat z1))]?) fun z3 =>
 (.test (decide ((0 = 0) ∧ ((List.length z0.2) = (List.length (List.set z0.2 (0 + (Int.toNat z1)) z2)))))
 (.sub (F6 (((), ()), (List.set z0.2 (0 + (Int.toNat z1)) z2))) fun z4 =>
 (.test (decide ((0 = 0) ∧ ((List.length z0.2) = (List.length z4.2))))
 (.ret ((), z4.2))
 .fail))
 .fail))
 .fail)))
 .fail))
noncomputable def F70 (v : (Int × List ((Int × Int)) × (Int × Int))) : Option (Unit × List ((Int × Int))) := (F70_t v).run
noncomputable def F70_E : TEnv := ((((E0.add1 n_F15 F15_sh F15_fo F15).add1 n_F14 F14_sh F14_fo F14).add1 n_F69 F69_sh F69_fo F69).add1 n_F13 F6_sh F6_fo F6)
theorem F70_Eok : (F70_E).OK := ((((E0ok.add1 F15_ok).add1 F14_ok).add1 F69_ok).add1 F6_ok)
noncomputable def F70_told : Nat → Option SealT := fun id => none
theorem F70_ok : FOK Tryz.prog n_F70 F70_sh F70_fo F70 :=
  fn_ok (E := F70_E) (F70_Eok) (told := F70_told) (fl := []) (c := bodyOf fn_F70) (s := F70_sh) (l := F70_fo) (tree := F70_t) fnat_F70 (by kernel_rfl) (by kernel_rfl) (by kernel_rfl) (loopsOK_of (ls := []) (by kernel_rfl) trivial) (fun v => by kernel_rfl)

theorem set_perm {l : List Dg} {k : Nat} {d e : Dg} (hk : k < l.length) (hd : l[k]? = some d) : (l.set k e).Perm (l.erase d ++ [e]) := by
  have hm : d ∈ l := List.mem_of_getElem? hd
  have h1 : l = l.take k ++ d :: l.drop (k + 1) := by
    have e1 : l[k] = d := by rw [List.getElem?_eq_getElem hk] at hd; exact Option.some.inj hd
    conv => lhs; rw [← List.take_append_drop k l, List.drop_eq_getElem_cons hk, e1]
  have h2 : l.set k e = l.take k ++ e :: l.drop (k + 1) := by rw [List.set_eq_take_append_cons_drop, if_pos hk]
  have h3 : (l.erase d).Perm (l.take k ++ l.drop (k + 1)) := by
    have p1 := List.perm_cons_erase hm
    have p2 : l.Perm (d :: (l.take k ++ l.drop (k + 1))) := by
      conv => lhs; rw [h1]
      exact List.perm_middle
    exact (p1.symm.trans p2).cons_inv
  rw [h2]
  exact List.perm_middle.trans ((h3.symm.cons e).trans (List.perm_append_comm (l₁ := [e])))
theorem F70_eq {n : Nat} {ds : List Dg} (h : isTri n ds = true) {d : Dg} (hd : d ∈ ds) : F70 ((n : Int), (ds, d)) = some ((), flipD n ds d) := by
  have g := tri_rng h
  have hc : F15 ds = some ((), ds) := by
    unfold F15
    rw [if_pos ⟨by unfold maxLen; omega, by omega⟩]
  have hi := F14_eq ds d (by omega)
  obtain ⟨k, hk, hkd, hki⟩ : ∃ k : Nat, k < ds.length ∧ ds[k]? = some d ∧ idxI (eqD d) ds = (k : Int) := by
    unfold idxI
    cases hf : ds.findIdx? (eqD d) with
    | none =>
      have := List.findIdx?_eq_none_iff.1 hf d hd
      rw [(eqD_iff d d).2 rfl] at this
      cases this
    | some k =>
      obtain ⟨hlt, he, _⟩ := List.findIdx?_eq_some_iff_getElem.1 hf
      exact ⟨k, hlt, by rw [List.getElem?_eq_getElem hlt, ← (eqD_iff _ _).1 he], rfl⟩
  rw [hki] at hi
  have ho := F69_eq h hd
  have hp := set_perm (e := othD n ds d) hk hkd
  have hsl : (ds.set k (othD n ds d)).length ≤ 12 := by rw [List.length_set]; omega
  obtain ⟨x, y⟩ := d
  rw [F70, F70_t, T.run_sub, hc, Option.bind_some, T.run_test, if_pos (by simp), win_all, T.run_sub, hi, Option.bind_some, T.run_sub, ho, Option.bind_some, T.run_test, if_pos (decide_eq_true (by dsimp only; omega)), T.run_sub, Nat.zero_add, Int.toNat_natCast]
  dsimp only
  rw [hkd, Option.bind_some, T.run_test, if_pos (by simp), T.run_sub, F6_eq _ hsl, Option.bind_some, T.run_test, if_pos (by simp [sortD_length]), T.run_ret]
  dsimp only
  rw [sortD_congr hp]
  rfl


def F41_sh : FSh := ⟨[(.one (.si .i64)), (.one (.sl (.pair (.int .i64) (.int .i64)) false false)), (.ag [(.si .i64), (.si .i64)])], []⟩

def F41_fo : List FO := [⟨[(.one (.rw 0 0)), (.one .sb)], [(.row 0 (.pair (.int .i64) (.int .i64)))]⟩]
noncomputable def F41_t : (Int × List ((Int × Int)) × (Int × Int)) → T ((Unit × Bool) × List ((Int × Int))) := fun (n, ds, (d_0, d_1)) =>
 (.sub (F77 (n, (ds, (d_0, d_1)))) fun z0 =>
 (.test (! z0)
 (.test true
 (.ret (((), false), ([] : List (Int × Int))))
 .fail)
 (.sub (F70 (n, (ds, (d_0, d_1)))) fun z1 =>
 (.test (decide ((0 = 0) ∧ ((List.length z1.2) = (List.length z1.2))))
 (.ret (((), true), z1.2))
 .fail))))
noncomputable def F41 (v : (Int × List ((Int × Int)) × (Int × Int))) : Option ((Unit × Bool) × List ((Int × Int))) := (F41_t v).run
noncomputable def F41_E : TEnv := ((E0.add1 n_F77 F77_sh F77_fo F77).add1 n_F70 F70_sh F70_fo F70)
theorem F41_Eok : (F41_E).OK := ((E0ok.add1 F77_ok).add1 F70_ok)
noncomputable def F41_told : Nat → Option SealT := fun id => none
theorem F41_ok : FOK Tryz.prog n_F41 F41_sh F41_fo F41 :=
  fn_ok (E := F41_E) (F41_Eok) (told := F41_told) (fl := []) (c := bodyOf fn_F41) (s := F41_sh) (l := F41_fo) (tree := F41_t) fnat_F41 (by kernel_rfl) (by kernel_rfl) (by kernel_rfl) (loopsOK_of (ls := []) (by kernel_rfl) trivial) (fun v => by kernel_rfl)

def flR (n : Int) (ds : List Dg) (d : Dg) : (Unit × Bool) × List Dg := if isTri n ds = true ∧ d ∈ ds then (((), true), flipD n.toNat ds d) else (((), false), [])
theorem F41_eq (n : Int) (ds : List Dg) (d : Dg) (hl : ds.length < 4611686018427387904) : F41 (n, (ds, d)) = some (flR n ds d) := by
  have hf := F77_eq n ds d hl
  unfold flR
  obtain ⟨x, y⟩ := d
  rw [F41, F41_t, T.run_sub, hf, Option.bind_some, T.run_test]
  by_cases c : isTri n ds = true ∧ (x, y) ∈ ds
  · have hn := (isTri_iff _ _).1 c.1
    obtain ⟨N, rfl⟩ := Int.eq_ofNat_of_zero_le (show 0 ≤ n by omega)
    rw [if_neg (by simp [c.1, c.2]), T.run_sub, F70_eq c.1 c.2, Option.bind_some, T.run_test, if_pos (by simp), T.run_ret, if_pos c, Int.toNat_natCast]
  · rw [if_pos (by simp only [Bool.not_eq_true', Bool.and_eq_false_iff, decide_eq_false_iff_not]; by_cases c1 : isTri n ds = true; exact .inr fun h => c ⟨c1, h⟩; exact .inl (by simpa using c1)), T.run_test, if_pos rfl, T.run_ret, if_neg c]


def F53_sh : FSh := ⟨[(.one (.si .i64)), (.ag [(.si .i64), (.si .i64)])], []⟩

def F53_fo : List FO := [⟨[(.one .sb)], []⟩]
noncomputable def F53_t : (Int × (Int × Int)) → T Bool := fun (n, (d_0, d_1)) =>
 (.sub (F96 n) fun z0 =>
 (.test z0
 (.sub (F95 (d_0, ((0 : Int), (w64 (n - 1))))) fun z1 =>
 (.test z1
 (.sub (F95 (d_1, ((0 : Int), (w64 (n - 1))))) fun z2 =>
 (.test z2
 (.test (decide ((w64 (d_1 - d_0)) ≥ 2))
 (.ret (decide ((w64 (d_1 - d_0)) ≤ (w64 (n - 2)))))
 (.ret false))
 (.ret false)))
 (.ret false)))
 (.ret false)))
noncomputable def F53 (v : (Int × (Int × Int))) : Option Bool := (F53_t v).run
noncomputable def F53_E : TEnv := ((E0.add1 n_F96 F96_sh F96_fo F96).add1 n_F95 F95_sh F95_fo F95)
theorem F53_Eok : (F53_E).OK := ((E0ok.add1 F96_ok).add1 F95_ok)
noncomputable def F53_told : Nat → Option SealT := fun id => none
theorem F53_ok : FOK Tryz.prog n_F53 F53_sh F53_fo F53 :=
  fn_ok (E := F53_E) (F53_Eok) (told := F53_told) (fl := []) (c := bodyOf fn_F53) (s := F53_sh) (l := F53_fo) (tree := F53_t) fnat_F53 (by kernel_rfl) (by kernel_rfl) (by kernel_rfl) (loopsOK_of (ls := []) (by kernel_rfl) trivial) (fun v => by kernel_rfl)

theorem F53_eq (n : Int) (d : Dg) (h1 : 3 ≤ n) (h2 : n ≤ 12) : F53 (n, d) = some (inDg n d) := by
  obtain ⟨a, b⟩ := d
  have hp : inB 3 12 n = true := inB_iff.2 ⟨h1, h2⟩
  simp only [F53, F53_t, T.run, F96, F96_t, F95_eq, Option.bind_some, hp, if_true, w64_id (z := n - 1) (by omega) (by omega), w64_id (z := n - 2) (by omega) (by omega)]
  cases ha : inB 0 (n - 1) a with
  | false => simp [inDg, ha]
  | true =>
    cases hb : inB 0 (n - 1) b with
    | false => simp [inDg, hb]
    | true =>
      have e : inDg n (a, b) = decide (b - a ≥ 2 ∧ b - a ≤ n - 2) := by
        rw [Bool.eq_iff_iff, inDg_iff, decide_eq_true_eq]
        rw [inB_iff] at ha hb
        simp only []
        omega
      rw [inB_iff] at ha hb
      rw [w64_id (z := b - a) (by omega) (by omega), e]
      by_cases g1 : b - a ≥ 2 <;> by_cases g2 : b - a ≤ n - 2 <;> simp [g1, g2]


def F71_sh : FSh := ⟨[(.ag [(.si .i64), (.si .i64)]), (.ag [(.si .i64), (.si .i64)])], []⟩

def F71_fo : List FO := [⟨[(.one .sb)], []⟩]
noncomputable def F71_t : ((Int × Int) × (Int × Int)) → T Bool := fun ((d_0, d_1), (e_0, e_1)) =>
 (.test (decide (d_0 < e_0))
 (.test (decide (e_0 < d_1))
 (.test (decide (d_1 < e_1))
 (.ret true)
 (.test (decide (e_0 < d_0))
 (.test (decide (d_0 < e_1))
 (.ret (decide (e_1 < d_1)))
 (.ret false))
 (.ret false)))
 (.test (decide (e_0 < d_0))
 (.test (decide (d_0 < e_1))
 (.ret (decide (e_1 < d_1)))
 (.ret false))
 (.ret false)))
 (.test (decide (e_0 < d_0))
 (.test (decide (d_0 < e_1))
 (.ret (decide (e_1 < d_1)))
 (.ret false))
 (.ret false)))
noncomputable def F71 (v : ((Int × Int) × (Int × Int))) : Option Bool := (F71_t v).run
noncomputable def F71_E : TEnv := E0
theorem F71_Eok : (F71_E).OK := E0ok
noncomputable def F71_told : Nat → Option SealT := fun id => none
theorem F71_ok : FOK Tryz.prog n_F71 F71_sh F71_fo F71 :=
  fn_ok (E := F71_E) (F71_Eok) (told := F71_told) (fl := []) (c := bodyOf fn_F71) (s := F71_sh) (l := F71_fo) (tree := F71_t) fnat_F71 (by kernel_rfl) (by kernel_rfl) (by kernel_rfl) (loopsOK_of (ls := []) (by kernel_rfl) trivial) (fun v => by kernel_rfl)

theorem F71_eq (d e : Dg) : F71 (d, e) = some (crossD d e) := by
  obtain ⟨a, b⟩ := d
  obtain ⟨c, f⟩ := e
  simp only [F71, F71_t, T.run, crossD]
  by_cases h1 : a < c <;> by_cases h2 : c < b <;> by_cases h3 : b < f <;> by_cases h4 : c < a <;> by_cases h5 : a < f <;> by_cases h6 : f < b <;> simp [h1, h2, h3, h4, h5, h6]


def F79_sh : FSh := ⟨[(.one (.si .i64)), (.one (.sl (.pair (.int .i64) (.int .i64)) false false))], []⟩

def F79_L9_sh : LSh := ⟨(fun ex => match ex with | .norm => [(0, none), (1, none), (6, none), (19, none), (20, none), (21, none), (46, none), (47, none), (48, none)] | .exit i => if i = 2 then [(0, none), (1, none), (19, none), (20, none), (21, none)] else if i = 1 then [(0, none), (1, none), (19, none), (20, none), (21, none)] else if i = 0 then [] else [] | .ret => [(4, none)]), [(0, (.one (.si .i64))), (1, (.one (.sl (.pair (.int .i64) (.int .i64)) false false))), (6, (.one (.pf 0 0 0))), (19, (.one (.sl (.pair (.int .i64) (.int .i64)) false false))), (20, (.one (.si .i64))), (21, (.one (.si .i64))), (46, (.one (.sl (.pair (.int .i64) (.int .i64)) false false))), (47, (.one (.si .i64))), (48, (.one (.si .i64)))], [(.rcd 0 [(.si .i64), (.si .i64)])], [⟨.ret, [(4, (.one .sb))], []⟩, ⟨(.exit 2), [(0, (.one (.si .i64))), (1, (.one (.sl (.pair (.int .i64) (.int .i64)) false false))), (19, (.one (.sl (.pair (.int .i64) (.int .i64)) false false))), (20, (.one (.si .i64))), (21, (.one (.si .i64)))], []⟩], [], []⟩
noncomputable def F79_L9_step : ((Int × List ((Int × Int)) × Unit × List ((Int × Int)) × Int × Int × List ((Int × Int)) × Int × Int) × (Int × Int)) → T (((Int × List ((Int × Int)) × Unit × List ((Int × Int)) × Int × Int × List ((Int × Int)) × Int × Int) × (Int × Int)) ⊕ (Bool ⊕ (Int × List ((Int × Int)) × List ((Int × Int)) × Int × Int))) := fun ((n, ds, (), t19, t20, t21, t46, t47, t48), (d_0, d_1)) =>
 (.test (decide (t48 < t47))
 (.test (decide ((0 ≤ t48) ∧ (t48 < ((List.length t46) : Int))))
 (.sub (t46[(Int.toNat t48)]?) fun z0 =>
 (.sub (F71 ((d_0, d_1), z0)) fun z1 =>
 (.test z1
 (.ret (Sum.inr (Sum.inl false)))
 (.ret (Sum.inl ((n, (ds, ((), (t19, (t20, (t21, (t46, (t47, (w64 (t48 + 1)))))))))), (d_0, d_1)))))))
 .fail)
 (.ret (Sum.inr (Sum.inr (n, (ds, (t19, (t20, t21))))))))
noncomputable def F79_L9 (v : ((Int × List ((Int × Int)) × Unit × List ((Int × Int)) × Int × Int × List ((Int × Int)) × Int × Int) × (Int × Int))) : Option (Bool ⊕ (Int × List ((Int × Int)) × List ((Int × Int)) × Int × Int)) := loopO (fun v => (F79_L9_step v).run) v

def F79_L4_sh : LSh := ⟨(fun ex => match ex with | .norm => [(0, none), (1, none), (19, none), (20, none), (21, none)] | .exit i => if i = 0 then [] else [] | .ret => [(4, none)]), [(0, (.one (.si .i64))), (1, (.one (.sl (.pair (.int .i64) (.int .i64)) false false))), (19, (.one (.sl (.pair (.int .i64) (.int .i64)) false false))), (20, (.one (.si .i64))), (21, (.one (.si .i64)))], [], [⟨.ret, [(4, (.one .sb))], []⟩, ⟨(.exit 0), [], []⟩], [], []⟩
noncomputable def F79_L4_step : (Int × List ((Int × Int)) × List ((Int × Int)) × Int × Int) → T ((Int × List ((Int × Int)) × List ((Int × Int)) × Int × Int) ⊕ (Bool ⊕ Unit)) := fun (n, ds, t19, t20, t21) =>
 (.test (decide (t21 < t20))
 (.test (decide ((0 ≤ t21) ∧ (t21 < ((List.length t19) : Int))))
 (.sub (t19[(Int.toNat t21)]?) fun z0 =>
 (.sub (F53 (n, z0)) fun z1 =>
 (.test (! z1)
 (.ret (Sum.inr (Sum.inl false)))
 (.test (decide (t21 > 0))
 (.test (decide ((0 ≤ (w64 (t21 - 1))) ∧ ((w64 (t21 - 1)) < ((List.length ds) : Int))))
 (.sub (ds[(Int.toNat (w64 (t21 - 1)))]?) fun z2 =>
 (.sub (F75 (z2, z0)) fun z3 =>
 (.test (! z3)
 (.ret (Sum.inr (Sum.inl false)))
 (.test (decide (0 ≤ t21))
 (.test (decide ((0 ≤ (Int.toNat t21)) ∧ ((Int.toNat t21) ≤ (List.length ds))))
 (.sub (F79_L9 ((n, (ds, ((), (t19, (t20, (t21, ((win ds 0 ((Int.toNat t21) - 0)), (((List.length (win ds 0 ((Int.toNat t21) - 0))) : Int), (0 : Int))))))))), z0)) fun z4 =>
 (.test (Sum.isLeft z4)
 (.sub (Sum.getLeft? z4) fun z5 =>
 (.ret (Sum.inr (Sum.inl z5))))
 (.sub (Sum.getRight? z4) fun z6 =>
 (.ret (Sum.inl (z6.1, (z6.2.1, (z6.2.2.1, (z6.2.2.2.1, (w64 (z6.2.2.2.2 + 1)))))))))))
 .fail)
 .fail))))
 .fail)
 (.test (decide (0 ≤ t21))
 (.test (decide ((0 ≤ (Int.toNat t21)) ∧ ((Int.toNat t21) ≤ (List.length ds))))
 (.sub (F79_L9 ((n, (ds, ((), (t19, (t20, (t21, ((win ds 0 ((Int.toNat t21) - 0)), (((List.length (win ds 0 ((Int.toNat t21) - 0))) : Int), (0 : Int))))))))), z0)) fun z7 =>
 (.test (Sum.isLeft z7)
 (.sub (Sum.getLeft? z7) fun z8 =>
 (.ret (Sum.inr (Sum.inl z8))))
 (.sub (Sum.getRight? z7) fun z9 =>
 (.ret (Sum.inl (z9.1, (z9.2.1, (z9.2.2.1, (z9.2.2.2.1, (w64 (z9.2.2.2.2 + 1)))))))))))
 .fail)
 .fail)))))
 .fail)
 (.ret (Sum.inr (Sum.inr ()))))
noncomputable def F79_L4 (v : (Int × List ((Int × Int)) × List ((Int × Int)) × Int × Int)) : Option (Bool ⊕ Unit) := loopO (fun v => (F79_L4_step v).run) v

def F79_fo : List FO := [⟨[(.one .sb)], []⟩]
noncomputable def F79_t : (Int × List ((Int × Int))) → T Bool := fun (n, ds) =>
 (.sub (F96 n) fun z0 =>
 (.test (! z0)
 (.ret false)
 (.test (((List.length ds) : Int) != (w64 (n - 3)))
 (.ret false)
 (.sub (F79_L4 (n, (ds, (ds, (((List.length ds) : Int), (0 : Int)))))) fun z1 =>
 (.test (Sum.isLeft z1)
 (.sub (Sum.getLeft? z1) fun z2 =>
 (.ret z2))
 (.sub (Sum.getRight? z1) fun z3 =>
 (.ret true)))))))
noncomputable def F79 (v : (Int × List ((Int × Int)))) : Option Bool := (F79_t v).run
noncomputable def F79_E : TEnv := ((((E0.add1 n_F96 F96_sh F96_fo F96).add1 n_F53 F53_sh F53_fo F53).add1 n_F75 F75_sh F75_fo F75).add1 n_F71 F71_sh F71_fo F71)
theorem F79_Eok : (F79_E).OK := ((((E0ok.add1 F96_ok).add1 F53_ok).add1 F75_ok).add1 F71_ok)
noncomputable def F79_told : Nat → Option SealT := fun id => if id = 9 then some (LSh.told F79_L9_sh 0 (F79_L9_step)) else if id = 4 then some (LSh.told F79_L4_sh 0 (F79_L4_step)) else none
theorem F79_L9_ok : ToldOK Tryz.prog 0 (loopAt (bodyOf fn_F79) [0, 0]) (LSh.told F79_L9_sh 0 (F79_L9_step)) :=
  loop_ok (E := F79_E) (F79_Eok) (told := F79_told) (l := F79_L9_sh) (step := F79_L9_step) (loopsOK_of (ls := []) (by kernel_rfl) trivial) (by kernel_rfl) (fun v => by kernel_rfl)
theorem F79_L4_ok : ToldOK Tryz.prog 0 (loopAt (bodyOf fn_F79) [0]) (LSh.told F79_L4_sh 0 (F79_L4_step)) :=
  loop_ok (E := F79_E) (F79_Eok) (told := F79_told) (l := F79_L4_sh) (step := F79_L4_step) (loopsOK_of (ls := [loopAt (bodyOf fn_F79) [0, 0]]) (by kernel_rfl) ⟨.inr ⟨_, by kernel_rfl, F79_L9_ok⟩, trivial⟩) (by kernel_rfl) (fun v => by kernel_rfl)
theorem F79_ok : FOK Tryz.prog n_F79 F79_sh F79_fo F79 :=
  fn_ok (E := F79_E) (F79_Eok) (told := F79_told) (fl := []) (c := bodyOf fn_F79) (s := F79_sh) (l := F79_fo) (tree := F79_t) fnat_F79 (by kernel_rfl) (by kernel_rfl) (by kernel_rfl) (loopsOK_of (ls := [loopAt (bodyOf fn_F79) [0]]) (by kernel_rfl) ⟨.inr ⟨_, by kernel_rfl, F79_L4_ok⟩, trivial⟩) (fun v => by kernel_rfl)

theorem F79_L9_eq (n : Int) (ds t19 xs : List Dg) (t20 t21 : Int) (d : Dg) (hl : xs.length < 4611686018427387904) :
    F79_L9 ((n, (ds, ((), (t19, (t20, (t21, (xs, ((xs.length : Int), (0 : Int))))))))), d) = some (if xs.any (crossD d) then .inl false else .inr (n, (ds, (t19, (t20, t21))))) := by
  obtain ⟨a, b⟩ := d
  have h := loop_any (step := fun v => (F79_L9_step v).run) (xs := xs) (crossD (a, b)) (fun k => ((n, (ds, ((), (t19, (t20, (t21, (xs, ((xs.length : Int), (k : Int))))))))), (a, b))) (.inl false) (.inr (n, (ds, (t19, (t20, t21)))))
    (fun k x hx => by
      have hlt := getElem?_lt hx
      have w1 : w64 ((k : Int) + 1) = ((k + 1 : Nat) : Int) := by rw [w64_id (by omega) (by omega)]; omega
      rw [F79_L9_step, T.run_test, if_pos (decide_eq_true (by omega)), T.run_test, if_pos (decide_eq_true (by omega)), T.run_sub, Int.toNat_natCast, hx, Option.bind_some, T.run_sub, F71_eq, Option.bind_some, T.run_test, w1]
      cases crossD (a, b) x <;> rfl)
    (by rw [F79_L9_step, T.run_test, if_neg (by simp), T.run_ret])
  simp only [Int.natCast_zero] at h
  exact h
theorem F79_eq (n : Int) (ds : List Dg) (hl : ds.length < 4611686018427387904) : F79 (n, ds) = some (isTri n ds) := by
  rw [F79, F79_t, T.run_sub, F96, F96_t, T.run_sub, F95_eq, Option.bind_some, T.run_ret, Option.bind_some, T.run_test, isTri]
  cases hn : inB 3 12 n with
  | false => rfl
  | true =>
    rw [inB_iff] at hn
    have w3 : w64 (n - 3) = n - 3 := w64_id (by omega) (by omega)
    rw [if_neg (by simp), T.run_test, w3]
    by_cases he : (ds.length : Int) = n - 3
    · have h := loop_any (step := fun v => (F79_L4_step v).run) (xs := List.range ds.length) (badT n ds) (fun k => (n, (ds, (ds, ((ds.length : Int), (k : Int)))))) (.inl false) (.inr ())
        (fun k x hx => by
          obtain ⟨hk, e⟩ := List.getElem?_eq_some_iff.1 hx
          simp only [List.getElem_range] at e
          subst e
          rw [List.length_range] at hk
          have g0 := gD_some hk
          have w1 : w64 ((k : Int) + 1) = ((k + 1 : Nat) : Int) := by rw [w64_id (by omega) (by omega)]; omega
          have tw : win ds 0 (k - 0) = ds.take k := win_take _ _
          have hcr := F79_L9_eq n ds ds (ds.take k) (ds.length : Int) (k : Int) (gD ds k) (by simp; omega)
          have hdg : F53 (n, gD ds k) = some (inDg n (gD ds k)) := F53_eq n (gD ds k) (by omega) (by omega)
          rw [F79_L4_step, T.run_test, if_pos (decide_eq_true (by omega)), T.run_test, if_pos (decide_eq_true (by omega)), T.run_sub, Int.toNat_natCast, g0, Option.bind_some, T.run_sub, hdg, Option.bind_some, T.run_test, badT]
          cases hd : inDg n (gD ds k) with
          | false => rfl
          | true =>
            rw [if_neg (by simp), T.run_test]
            by_cases hk0 : 0 < k
            · have w2 : w64 ((k : Int) - 1) = ((k - 1 : Nat) : Int) := by rw [w64_id (by omega) (by omega)]; omega
              have g1 := gD_some (show k - 1 < ds.length by omega)
              have hls : F75 (gD ds (k - 1), gD ds k) = some (ltD (gD ds (k - 1)) (gD ds k)) := F75_eq _ _
              rw [if_pos (decide_eq_true (by omega)), T.run_test, w2, if_pos (decide_eq_true (by omega)), T.run_sub, Int.toNat_natCast, g1, Option.bind_some, T.run_sub, hls, Option.bind_some, T.run_test, decide_eq_true hk0]
              cases ltD (gD ds (k - 1)) (gD ds k) with
              | false => rfl
              | true =>
                rw [if_neg (by simp), T.run_test, if_pos (decide_eq_true (by omega)), T.run_test, if_pos (decide_eq_true (by omega)), T.run_sub, tw, hcr, Option.bind_some, T.run_test, ← w1]
                cases (ds.take k).any (crossD (gD ds k)) <;> rfl
            · rw [if_neg (by rw [decide_eq_true_eq]; omega), T.run_test, if_pos (decide_eq_true (by omega)), T.run_test, if_pos (decide_eq_true (by omega)), T.run_sub, tw, hcr, Option.bind_some, T.run_test, decide_eq_false hk0, ← w1]
              cases (ds.take k).any (crossD (gD ds k)) <;> rfl)
        (by rw [F79_L4_step, T.run_test, if_neg (by simp), T.run_ret])
      simp only [Int.natCast_zero] at h
      rw [if_neg (by simp [he]), T.run_sub, F79_L4, h, Option.bind_some, T.run_test, decide_eq_true he]
      cases (List.range ds.length).any (badT n ds) <;> rfl
    · rw [if_pos (by simp [he]), T.run_ret, decide_eq_false he]
      rfl


def F106_sh : FSh := ⟨[(.one (.sl (.pair (.int .i64) (.int .i64)) false false)), (.ag [(.si .i64), (.si .i64)])], []⟩

def F106_L2_sh : LSh := ⟨(fun ex => match ex with | .norm => [(3, none), (7, none), (8, none), (9, none)] | .exit i => if i = 0 then [] else [] | .ret => [(4, none)]), [(3, (.one (.pf 0 0 0))), (7, (.one (.sl (.pair (.int .i64) (.int .i64)) false false))), (8, (.one (.si .i64))), (9, (.one (.si .i64)))], [(.rcd 0 [(.si .i64), (.si .i64)])], [⟨.ret, [(4, (.one .sb))], []⟩, ⟨(.exit 0), [], []⟩], [], []⟩
noncomputable def F106_L2_step : ((Unit × List ((Int × Int)) × Int × Int) × (Int × Int)) → T (((Unit × List ((Int × Int)) × Int × Int) × (Int × Int)) ⊕ (Bool ⊕ Unit)) := fun (((), t7, t8, t9), (d_0, d_1)) =>
 (.test (decide (t9 < t8))
 (.test (decide ((0 ≤ t9) ∧ (t9 < ((List.length t7) : Int))))
 (.sub (t7[(Int.toNat t9)]?) fun z0 =>
 (.test ((z0.1 == d_0) && ((z0.2 == d_1) && true))
 (.ret (Sum.inr (Sum.inl true)))
 (.ret (Sum.inl (((), (t7, (t8, (w64 (t9 + 1))))), (d_0, d_1))))))
 .fail)
 (.ret (Sum.inr (Sum.inr ()))))
noncomputable def F106_L2 (v : ((Unit × List ((Int × Int)) × Int × Int) × (Int × Int))) : Option (Bool ⊕ Unit) := loopO (fun v => (F106_L2_step v).run) v

def F106_fo : List FO := [⟨[(.one .sb)], []⟩]
noncomputable def F106_t : (List ((Int × Int)) × (Int × Int)) → T Bool := fun (ds, (d_0, d_1)) =>
 (.sub (F106_L2 (((), (ds, (((List.length ds) : Int), (0 : Int)))), (d_0, d_1))) fun z0 =>
 (.test (Sum.isLeft z0)
 (.sub (Sum.getLeft? z0) fun z1 =>
 (.ret z1))
 (.sub (Sum.getRight? z0) fun z2 =>
 (.ret false))))
noncomputable def F106 (v : (List ((Int × Int)) × (Int × Int))) : Option Bool := (F106_t v).run
noncomputable def F106_E : TEnv := E0
theorem F106_Eok : (F106_E).OK := E0ok
noncomputable def F106_told : Nat → Option SealT := fun id => if id = 2 then some (LSh.told F106_L2_sh 0 (F106_L2_step)) else none
theorem F106_L2_ok : ToldOK Tryz.prog 0 (loopAt (bodyOf fn_F106) [0]) (LSh.told F106_L2_sh 0 (F106_L2_step)) :=
  loop_ok (E := F106_E) (F106_Eok) (told := F106_told) (l := F106_L2_sh) (step := F106_L2_step) (loopsOK_of (ls := []) (by kernel_rfl) trivial) (by kernel_rfl) (fun v => by kernel_rfl)
theorem F106_ok : FOK Tryz.prog n_F106 F106_sh F106_fo F106 :=
  fn_ok (E := F106_E) (F106_Eok) (told := F106_told) (fl := []) (c := bodyOf fn_F106) (s := F106_sh) (l := F106_fo) (tree := F106_t) fnat_F106 (by kernel_rfl) (by kernel_rfl) (by kernel_rfl) (loopsOK_of (ls := [loopAt (bodyOf fn_F106) [0]]) (by kernel_rfl) ⟨.inr ⟨_, by kernel_rfl, F106_L2_ok⟩, trivial⟩) (fun v => by kernel_rfl)

theorem F106_eq (ds : List Dg) (d : Dg) (hl : ds.length < 4611686018427387904) : F106 (ds, d) = some (decide (d ∈ ds)) := by
  obtain ⟨a, b⟩ := d
  have h := loop_find (step := fun v => (F106_L2_step v).run) (xs := ds) (fun e => decide (e = (a, b))) (fun k => (((), (ds, ((ds.length : Int), (k : Int)))), (a, b))) (fun k => .inl true) (.inr ())
    (fun k x hx => by
      have hk := getElem?_lt hx
      rw [F106_L2_step, T.run_test, if_pos (decide_eq_true (by omega)), T.run_test, if_pos (decide_eq_true (by omega)), T.run_sub, Int.toNat_natCast, hx, Option.bind_some, T.run_test, T.run_ret, T.run_ret, w64_id (by omega) (by omega)]
      obtain ⟨x1, x2⟩ := x
      by_cases e : x1 = a ∧ x2 = b
      · simp [e]
      · rw [if_neg (by simp; exact fun h1 h2 => e ⟨h1, h2⟩), decide_eq_false (by rw [Prod.mk.injEq]; exact e)]; simp)
    (by rw [F106_L2_step, T.run_test, if_neg (by simp), T.run_ret])
  have h' : F106_L2 (((), (ds, ((ds.length : Int), (0 : Int)))), (a, b)) = _ := h
  rw [F106, F106_t, T.run_sub, h', Option.bind_some]
  cases hf : ds.findIdx? (fun e => decide (e = (a, b))) with
  | none =>
    have : (a, b) ∉ ds := fun hm => by
      have := List.findIdx?_eq_none_iff.1 hf (a, b) hm
      simp at this
    rw [decide_eq_false this]; rfl
  | some k =>
    have : (a, b) ∈ ds := by
      obtain ⟨hlt, hk, _⟩ := List.findIdx?_eq_some_iff_getElem.1 hf
      rw [← of_decide_eq_true hk]; exact List.getElem_mem hlt
    rw [decide_eq_true this]; rfl


def F80_sh : FSh := ⟨[(.one (.si .i64)), (.one (.sl (.pair (.int .i64) (.int .i64)) false false)), (.ag [(.si .i64), (.si .i64)])], []⟩

def F80_L3_sh : LSh := ⟨(fun ex => match ex with | .norm => [(0, none), (1, none), (5, none), (7, none), (10, none), (11, none), (12, none)] | .exit i => if i = 0 then [(0, none), (1, none), (5, none), (7, none)] else [] | .ret => [(6, none)]), [(0, (.one (.si .i64))), (1, (.one (.sl (.pair (.int .i64) (.int .i64)) false false))), (5, (.one (.pf 0 0 0))), (7, (.one (.rw 1 0))), (10, (.one (.sl (.pair (.int .i64) (.int .i64)) false false))), (11, (.one (.si .i64))), (12, (.one (.si .i64)))], [(.rcd 0 [(.si .i64), (.si .i64)]), (.row 0 (.pair (.int .i64) (.int .i64)))], [⟨(.exit 0), [(0, (.one (.si .i64))), (1, (.one (.sl (.pair (.int .i64) (.int .i64)) false false))), (5, (.one (.pf 0 0 0))), (7, (.one (.rw 1 0)))], [(.rcd 0 [(.si .i64), (.si .i64)]), (.row 0 (.pair (.int .i64) (.int .i64)))]⟩], [], []⟩
noncomputable def F80_L3_step : ((Int × List ((Int × Int)) × Unit × Unit × List ((Int × Int)) × Int × Int) × ((Int × Int) × List ((Int × Int)))) → T (((Int × List ((Int × Int)) × Unit × Unit × List ((Int × Int)) × Int × Int) × ((Int × Int) × List ((Int × Int)))) ⊕ ((Int × List ((Int × Int)) × Unit × Unit) × ((Int × Int) × List ((Int × Int))))) := fun ((n, ds, (), (), t10, t11, t12), ((d_0, d_1), out)) =>
 (.test (decide (t12 < t11))
 (.test (decide ((0 ≤ t12) ∧ (t12 < ((List.length t10) : Int))))
 (.sub (t10[(Int.toNat t12)]?) fun z0 =>
 (.test (! ((z0.1 == d_0) && ((z0.2 == d_1) && true)))
 (.test (decide (1 ≤ 1))
 (.test (decide ((0 + (List.length out)) ≤ (List.length out)))
 (.test (decide ((2 * (((List.length out) + 1) * 17)) ≤ 140737488355328))
 (.test (decide ((0 = 0) ∧ (((List.length out) + 1) = (List.length ((win out 0 (List.length out)) ++ [z0])))))
 (.ret (Sum.inl ((n, (ds, ((), ((), (t10, (t11, (w64 (t12 + 1)))))))), ((d_0, d_1), ((win out 0 (List.length out)) ++ [z0])))))
 .fail)
 .fail)
 .fail)
 .fail)
 (.test (decide ((0 = 0) ∧ ((List.length out) = (List.length out))))
 (.ret (Sum.inl ((n, (ds, ((), ((), (t10, (t11, (w64 (t12 + 1)))))))), ((d_0, d_1), out))))
 .fail)))
 .fail)
 (.test (decide ((0 = 0) ∧ ((List.length out) = (List.length out))))
 (.ret (Sum.inr ((n, (ds, ((), ()))), ((d_0, d_1), out))))
 .fail))
noncomputable def F80_L3 (v : ((Int × List ((Int × Int)) × Unit × Unit × List ((Int × Int)) × Int × Int) × ((Int × Int) × List ((Int × Int))))) : Option ((Int × List ((Int × Int)) × Unit × Unit) × ((Int × Int) × List ((Int × Int)))) := loopO (fun v => (F80_L3_step v).run) v

def F80_fo : List FO := [⟨[(.one (.rw 0 0))], [(.row 0 (.pair (.int .i64) (.int .i64)))]⟩]
noncomputable def F80_t : (Int × List ((Int × Int)) × (Int × Int)) → T (Unit × List ((Int × Int))) := fun (n, ds, (d_0, d_1)) =>
 (.test (decide ((0 = 0) ∧ (0 = (List.length ([] : List (Int × Int))))))
 (.sub (F80_L3 ((n, (ds, ((), ((), (ds, (((List.length ds) : Int), (0 : Int))))))), ((d_0, d_1), ([] : List (Int × Int))))) fun z0 =>
 (.sub (F67 (z0.1.1, (z0.1.2.1, z0.2.1))) fun z1 =>
 (.test (decide (1 ≤ 1))
 (.test (decide ((0 + (List.length z0.2.2)) ≤ (List.length z0.2.2)))
 (.test (decide ((2 * (((List.length z0.2.2) + 1) * 17)) ≤ 140737488355328))
 (.test (decide ((0 + ((List.length z0.2.2) + 1)) ≤ (List.length ((win z0.2.2 0 (List.length z0.2.2)) ++ [z1]))))
 (.sub (F60 (win ((win z0.2.2 0 (List.length z0.2.2)) ++ [z1]) 0 ((List.length z0.2.2) + 1))) fun z2 =>
 (.test (decide ((0 = 0) ∧ ((List.length z2.2) = (List.length z2.2))))
 (.ret ((), z2.2))
 .fail))
 .fail)
 .fail)
 .fail)
 .fail)))
 .fail)
noncomputable def F80 (v : (Int × List ((Int × Int)) × (Int × Int))) : Option (Unit × List ((Int × Int))) := (F80_t v).run
noncomputable def F80_E : TEnv := ((E0.add1 n_F67 F67_sh F67_fo F67).add1 n_F60 F60_sh F60_fo F60)
theorem F80_Eok : (F80_E).OK := ((E0ok.add1 F67_ok).add1 F60_ok)
noncomputable def F80_told : Nat → Option SealT := fun id => if id = 3 then some (LSh.told F80_L3_sh 0 (F80_L3_step)) else none
theorem F80_L3_ok : ToldOK Tryz.prog 0 (loopAt (bodyOf fn_F80) [0]) (LSh.told F80_L3_sh 0 (F80_L3_step)) :=
  loop_ok (E := F80_E) (F80_Eok) (told := F80_told) (l := F80_L3_sh) (step := F80_L3_step) (loopsOK_of (ls := []) (by kernel_rfl) trivial) (by kernel_rfl) (fun v => by kernel_rfl)
theorem F80_ok : FOK Tryz.prog n_F80 F80_sh F80_fo F80 :=
  fn_ok (E := F80_E) (F80_Eok) (told := F80_told) (fl := []) (c := bodyOf fn_F80) (s := F80_sh) (l := F80_fo) (tree := F80_t) fnat_F80 (by kernel_rfl) (by kernel_rfl) (by kernel_rfl) (loopsOK_of (ls := [loopAt (bodyOf fn_F80) [0]]) (by kernel_rfl) ⟨.inr ⟨_, by kernel_rfl, F80_L3_ok⟩, trivial⟩) (fun v => by kernel_rfl)

theorem F80_eq {n : Nat} {ds : List Dg} (h : isTri n ds = true) {d : Dg} (hd : d ∈ ds) : F80 ((n : Int), (ds, d)) = some ((), flipD n ds d) := by
  have g := tri_rng h
  obtain ⟨x, y⟩ := d
  have hL := app_loop (step := fun v => (F80_L3_step v).run) (fun k o => (((n : Int), (ds, ((), ((), (ds, ((ds.length : Int), (k : Int))))))), ((x, y), o))) (fun k => if (fun e : Dg => e != (x, y)) (gD ds k) = true then [gD ds k] else []) (fun o => (((n : Int), (ds, ((), ()))), ((x, y), o))) ds.length 1 0 0
    (fun j => by dsimp only; split <;> simp)
    (fun o j hj => by rw [F80_L3_step, T.run_test, if_neg (by simp; omega), T.run_test, if_pos (by simp), T.run_ret])
    (fun k o _ hk ho => by
      have v2 : w64 ((k : Int) + 1) = ((k + 1 : Nat) : Int) := by rw [w64_id (by omega) (by omega)]; omega
      rw [F80_L3_step, T.run_test, if_pos (decide_eq_true (by omega)), T.run_test, if_pos (decide_eq_true (by omega)), T.run_sub, Int.toNat_natCast, gD_some hk, Option.bind_some, T.run_test]
      generalize gD ds k = e
      obtain ⟨e1, e2⟩ := e
      by_cases c : e1 = x ∧ e2 = y
      · obtain ⟨rfl, rfl⟩ := c
        rw [if_neg (by simp), if_neg (by simp), T.run_test, if_pos (by simp), T.run_ret, v2, List.append_nil]
      · have hne : ((e1, e2) : Dg) ≠ (x, y) := fun hh => c (Prod.mk.injEq .. ▸ hh)
        rw [if_pos (by simp; omega), if_pos (by simpa using hne), T.run_test, if_pos (by simp), T.run_test, if_pos (by simp), T.run_test, if_pos (decide_eq_true (by omega)), win_all, T.run_test, if_pos (by simp), T.run_ret, v2])
    ds.length 0 [] (Nat.le_refl 0) rfl (by simp)
  rw [List.nil_append, filt_idx (fun e : Dg => e != (x, y)) (gD ds) ds (fun k hk => gD_some hk), ← g.2.1.erase_eq_filter] at hL
  have hL' : F80_L3 (((n : Int), (ds, ((), ((), (ds, ((ds.length : Int), (0 : Int))))))), ((x, y), ([] : List (Int × Int)))) = _ := hL
  have hel := List.length_erase_of_mem hd
  have ho := F67_eq h hd
  have hw : win (ds.erase (x, y) ++ [othD n ds (x, y)]) 0 ((ds.erase (x, y)).length + 1) = ds.erase (x, y) ++ [othD n ds (x, y)] := by
    have := win_all (ds.erase (x, y) ++ [othD n ds (x, y)])
    rwa [List.length_append, List.length_singleton] at this
  rw [F80, F80_t, T.run_test, if_pos (by simp), T.run_sub, hL', Option.bind_some, T.run_sub, ho, Option.bind_some, T.run_test, if_pos (by simp), T.run_test, if_pos (by simp), T.run_test, if_pos (decide_eq_true (by dsimp only; omega)), win_all, T.run_test, if_pos (by simp), hw, T.run_sub, F60_eq _ (by rw [List.length_append, List.length_singleton]; omega), Option.bind_some, T.run_test, if_pos (by simp), T.run_ret]
  rfl


def F42_sh : FSh := ⟨[(.one (.si .i64)), (.one (.sl (.pair (.int .i64) (.int .i64)) false false)), (.ag [(.si .i64), (.si .i64)])], []⟩

def F42_fo : List FO := [⟨[(.one (.rw 0 0)), (.one .sb)], [(.row 0 (.pair (.int .i64) (.int .i64)))]⟩]
noncomputable def F42_t : (Int × List ((Int × Int)) × (Int × Int)) → T ((Unit × Bool) × List ((Int × Int))) := fun (n, ds, (d_0, d_1)) =>
 (.sub (F79 (n, ds)) fun z0 =>
 (.test (! z0)
 (.test true
 (.ret (((), false), ([] : List (Int × Int))))
 .fail)
 (.sub (F106 (ds, (d_0, d_1))) fun z1 =>
 (.test (! z1)
 (.test true
 (.ret (((), false), ([] : List (Int × Int))))
 .fail)
 (.sub (F80 (n, (ds, (d_0, d_1)))) fun z2 =>
 (.test (decide ((0 = 0) ∧ ((List.length z2.2) = (List.length z2.2))))
 (.ret (((), true), z2.2))
 .fail))))))
noncomputable def F42 (v : (Int × List ((Int × Int)) × (Int × Int))) : Option ((Unit × Bool) × List ((Int × Int))) := (F42_t v).run
noncomputable def F42_E : TEnv := (((E0.add1 n_F79 F79_sh F79_fo F79).add1 n_F106 F106_sh F106_fo F106).add1 n_F80 F80_sh F80_fo F80)
theorem F42_Eok : (F42_E).OK := (((E0ok.add1 F79_ok).add1 F106_ok).add1 F80_ok)
noncomputable def F42_told : Nat → Option SealT := fun id => none
theorem F42_ok : FOK Tryz.prog n_F42 F42_sh F42_fo F42 :=
  fn_ok (E := F42_E) (F42_Eok) (told := F42_told) (fl := []) (c := bodyOf fn_F42) (s := F42_sh) (l := F42_fo) (tree := F42_t) fnat_F42 (by kernel_rfl) (by kernel_rfl) (by kernel_rfl) (loopsOK_of (ls := []) (by kernel_rfl) trivial) (fun v => by kernel_rfl)

theorem F42_eq (n : Int) (ds : List Dg) (d : Dg) (hl : ds.length < 4611686018427387904) : F42 (n, (ds, d)) = some (flR n ds d) := by
  have hf := F106_eq ds d hl
  unfold flR
  obtain ⟨x, y⟩ := d
  rw [F42, F42_t, T.run_sub, F79_eq n ds hl, Option.bind_some, T.run_test]
  by_cases c1 : isTri n ds = true
  · rw [c1, if_neg (by decide), T.run_sub, hf, Option.bind_some, T.run_test]
    have hn := (isTri_iff _ _).1 c1
    obtain ⟨N, rfl⟩ := Int.eq_ofNat_of_zero_le (show 0 ≤ n by omega)
    by_cases c2 : (x, y) ∈ ds
    · rw [decide_eq_true c2, if_neg (by decide), T.run_sub, F80_eq c1 c2, Option.bind_some, T.run_test, if_pos (by simp), T.run_ret, if_pos ⟨rfl, c2⟩, Int.toNat_natCast]
    · rw [decide_eq_false c2, if_pos (by decide), T.run_test, if_pos rfl, T.run_ret, if_neg fun h => c2 h.2]
  · rw [if_pos (by simp at c1 ⊢; exact c1), T.run_test, if_pos rfl, T.run_ret, if_neg fun h => c1 h.1]


def F39_sh : FSh := ⟨[(.one (.si .i64)), (.one (.sl (.pair (.int .i64) (.int .i64)) false false)), (.ag [(.si .i64), (.si .i64)])], []⟩

def F39_fo : List FO := [⟨[(.ag [(.si .i64), (.si .i64)]), (.one .sb)], []⟩]
noncomputable def F39_t : (Int × List ((Int × Int)) × (Int × Int)) → T ((Int × Int) × Bool) := fun (n, ds, (d_0, d_1)) =>
 (.sub (F77 (n, (ds, (d_0, d_1)))) fun z0 =>
 (.test (! z0)
 (.ret (((0 : Int), (0 : Int)), false))
 (.sub (F69 (n, (ds, (d_0, d_1)))) fun z1 =>
 (.ret (z1, true)))))
noncomputable def F39 (v : (Int × List ((Int × Int)) × (Int × Int))) : Option ((Int × Int) × Bool) := (F39_t v).run
noncomputable def F39_E : TEnv := ((E0.add1 n_F77 F77_sh F77_fo F77).add1 n_F69 F69_sh F69_fo F69)
theorem F39_Eok : (F39_E).OK := ((E0ok.add1 F77_ok).add1 F69_ok)
noncomputable def F39_told : Nat → Option SealT := fun id => none
theorem F39_ok : FOK Tryz.prog n_F39 F39_sh F39_fo F39 :=
  fn_ok (E := F39_E) (F39_Eok) (told := F39_told) (fl := []) (c := bodyOf fn_F39) (s := F39_sh) (l := F39_fo) (tree := F39_t) fnat_F39 (by kernel_rfl) (by kernel_rfl) (by kernel_rfl) (loopsOK_of (ls := []) (by kernel_rfl) trivial) (fun v => by kernel_rfl)

def otR (n : Int) (ds : List Dg) (d : Dg) : Dg × Bool := if isTri n ds = true ∧ d ∈ ds then (othD n.toNat ds d, true) else ((0, 0), false)
theorem F39_eq (n : Int) (ds : List Dg) (d : Dg) (hl : ds.length < 4611686018427387904) : F39 (n, (ds, d)) = some (otR n ds d) := by
  have hf := F77_eq n ds d hl
  unfold otR
  obtain ⟨x, y⟩ := d
  rw [F39, F39_t, T.run_sub, hf, Option.bind_some, T.run_test]
  by_cases c : isTri n ds = true ∧ (x, y) ∈ ds
  · have hn := (isTri_iff _ _).1 c.1
    obtain ⟨N, rfl⟩ := Int.eq_ofNat_of_zero_le (show 0 ≤ n by omega)
    rw [if_neg (by simp [c.1, c.2]), T.run_sub, F69_eq c.1 c.2, Option.bind_some, T.run_ret, if_pos c, Int.toNat_natCast]
  · rw [if_pos (by simp only [Bool.not_eq_true', Bool.and_eq_false_iff, decide_eq_false_iff_not]; by_cases c1 : isTri n ds = true; exact .inr fun h => c ⟨c1, h⟩; exact .inl (by simpa using c1)), T.run_ret, if_neg c]


def F40_sh : FSh := ⟨[(.one (.si .i64)), (.one (.sl (.pair (.int .i64) (.int .i64)) false false)), (.ag [(.si .i64), (.si .i64)])], []⟩

def F40_fo : List FO := [⟨[(.ag [(.si .i64), (.si .i64)]), (.one .sb)], []⟩]
noncomputable def F40_t : (Int × List ((Int × Int)) × (Int × Int)) → T ((Int × Int) × Bool) := fun (n, ds, (d_0, d_1)) =>
 (.sub (F79 (n, ds)) fun z0 =>
 (.test (! z0)
 (.ret (((0 : Int), (0 : Int)), false))
 (.sub (F106 (ds, (d_0, d_1))) fun z1 =>
 (.test (! z1)
 (.ret (((0 : Int), (0 : Int)), false))
 (.sub (F67 (n, (ds, (d_0, d_1)))) fun z2 =>
 (.ret (z2, true)))))))
noncomputable def F40 (v : (Int × List ((Int × Int)) × (Int × Int))) : Option ((Int × Int) × Bool) := (F40_t v).run
noncomputable def F40_E : TEnv := (((E0.add1 n_F79 F79_sh F79_fo F79).add1 n_F106 F106_sh F106_fo F106).add1 n_F67 F67_sh F67_fo F67)
theorem F40_Eok : (F40_E).OK := (((E0ok.add1 F79_ok).add1 F106_ok).add1 F67_ok)
noncomputable def F40_told : Nat → Option SealT := fun id => none
theorem F40_ok : FOK Tryz.prog n_F40 F40_sh F40_fo F40 :=
  fn_ok (E := F40_E) (F40_Eok) (told := F40_told) (fl := []) (c := bodyOf fn_F40) (s := F40_sh) (l := F40_fo) (tree := F40_t) fnat_F40 (by kernel_rfl) (by kernel_rfl) (by kernel_rfl) (loopsOK_of (ls := []) (by kernel_rfl) trivial) (fun v => by kernel_rfl)

theorem F40_eq (n : Int) (ds : List Dg) (d : Dg) (hl : ds.length < 4611686018427387904) : F40 (n, (ds, d)) = some (otR n ds d) := by
  have hf := F106_eq ds d hl
  unfold otR
  obtain ⟨x, y⟩ := d
  rw [F40, F40_t, T.run_sub, F79_eq n ds hl, Option.bind_some, T.run_test]
  by_cases c1 : isTri n ds = true
  · rw [c1, if_neg (by decide), T.run_sub, hf, Option.bind_some, T.run_test]
    have hn := (isTri_iff _ _).1 c1
    obtain ⟨N, rfl⟩ := Int.eq_ofNat_of_zero_le (show 0 ≤ n by omega)
    by_cases c2 : (x, y) ∈ ds
    · rw [decide_eq_true c2, if_neg (by decide), T.run_sub, F67_eq c1 c2, Option.bind_some, T.run_ret, if_pos ⟨rfl, c2⟩, Int.toNat_natCast]
    · rw [decide_eq_false c2, if_pos (by decide), T.run_ret, if_neg fun h => c2 h.2]
  · rw [if_pos (by simp at c1 ⊢; exact c1), T.run_ret, if_neg fun h => c1 h.1]


def F34_sh : FSh := ⟨[(.one (.si .i64)), (.one (.sl (.pair (.int .i64) (.int .i64)) false false)), (.ag [(.si .i64), (.si .i64)])], []⟩

def F34_fo : List FO := [⟨[(.one (.rw 0 0)), (.one .sb)], [(.row 0 (.int .i64))]⟩]
noncomputable def F34_t : (Int × List ((Int × Int)) × (Int × Int)) → T ((Unit × Bool) × List (Int)) := fun (n, ds, (d_0, d_1)) =>
 (.sub (F77 (n, (ds, (d_0, d_1)))) fun z0 =>
 (.test (! z0)
 (.test true
 (.ret (((), false), ([] : List (Int))))
 .fail)
 (.test (decide ((0 ≤ n) ∧ ((n ≤ n) ∧ (((Int.toNat n) * 9) ≤ 140737488355328))))
 (.sub (F69 (n, (ds, (d_0, d_1)))) fun z1 =>
 (.test (decide ((0 ≤ d_0) ∧ (d_0 < ((Int.toNat n) : Int))))
 (.sub ((List.replicate (Int.toNat n) (0 : Int))[(0 + (Int.toNat d_0))]?) fun z2 =>
 (.test (decide ((0 ≤ d_0) ∧ (d_0 < ((Int.toNat n) : Int))))
 (.sub ((List.replicate (Int.toNat n) (0 : Int))[(0 + (Int.toNat d_0))]?) fun z3 =>
 (.test (decide ((0 ≤ d_1) ∧ (d_1 < ((Int.toNat n) : Int))))
 (.sub ((List.set (List.replicate (Int.toNat n) (0 : Int)) (0 + (Int.toNat d_0)) (w64 (z2 - 1)))[(0 + (Int.toNat d_1))]?) fun z4 =>
 (.test (decide ((0 ≤ d_1) ∧ (d_1 < ((Int.toNat n) : Int))))
 (.sub ((List.set (List.replicate (Int.toNat n) (0 : Int)) (0 + (Int.toNat d_0)) (w64 (z2 - 1)))[(0 + (Int.toNat d_1))]?) fun z5 =>
 (.test (decide ((0 ≤ z1.1) ∧ (z1.1 < ((Int.toNat n) : Int))))
 (.sub ((List.set (List.set (List.replicate (Int.toNat n) (0 : Int)) (0 + (Int.toNat d_0)) (w64 (z2 - 1))) (0 + (Int.toNat d_1)) (w64 (z4 - 1)))[(0 + (Int.toNat z1.1))]?) fun z6 =>
 (.test (decide ((0 ≤ z1.1) ∧ (z1.1 < ((Int.toNat n) : Int))))
 (.sub ((List.set (List.set (List.replicate (Int.toNat n) (0 : Int)) (0 + (Int.toNat d_0)) (w64 (z2 - 1))) (0 + (Int.toNat d_1)) (w64 (z4 - 1)))[(0 + (Int.toNat z1.1))]?) fun z7 =>
 (.test (decide ((0 ≤ z1.2) ∧ (z1.2 < ((Int.toNat n) : Int))))
 (.sub ((List.set (List.set (List.set (List.replicate (Int.toNat n) (0 : Int)) (0 + (Int.toNat d_0)) (w64 (z2 - 1))) (0 + (Int.toNat d_1)) (w64 (z4 - 1))) (0 + (Int.toNat z1.1)) (w64 (z6 + 1)))[(0 + (Int.toNat z1.2))]?) fun z8 =>
 (.test (decide ((0 ≤ z1.2) ∧ (z1.2 < ((Int.toNat n) : Int))))
 (.sub ((List.set (List.set (List.set (List.replicate (Int.toNat n) (0 : Int)) (0 + (Int.toNat d_0)) (w64 (z2 - 1))) (0 + (Int.toNat d_1)) (w64 (z4 - 1))) (0 + (Int.toNat z1.1)) (w64 (z6 + 1)))[(0 + (Int.toNat z1.2))]?) fun z9 =>
 (.test (decide ((0 = 0) ∧ ((Int.toNat n) = (List.length (List.set (List.set (List.set (List.set (List.replicate (Int.toNat n) (0 : Int)) (0 + (Int.toNat d_0)) (w64 (z2 - 1))) (0 + (Int.toNat d_1)) (w64 (z4 - 1))) (0 + (Int.toNat z1.1)) (w64 (z6 + 1))) (0 + (Int.toNat z1.2)) (w64 (z8 + 1)))))))
 (.ret (((), true), (List.set (List.set (List.set (List.set (List.replicate (Int.toNat n) (0 : Int)) (0 + (Int.toNat d_0)) (w64 (z2 - 1))) (0 + (Int.toNat d_1)) (w64 (z4 - 1))) (0 + (Int.toNat z1.1)) (w64 (z6 + 1))) (0 + (Int.toNat z1.2)) (w64 (z8 + 1)))))
 .fail))
 .fail))
 .fail))
 .fail))
 .fail))
 .fail))
 .fail))
 .fail))
 .fail))
 .fail)))
noncomputable def F34 (v : (Int × List ((Int × Int)) × (Int × Int))) : Option ((Unit × Bool) × List (Int)) := (F34_t v).run
noncomputable def F34_E : TEnv := ((E0.add1 n_F77 F77_sh F77_fo F77).add1 n_F69 F69_sh F69_fo F69)
theorem F34_Eok : (F34_E).OK := ((E0ok.add1 F77_ok).add1 F69_ok)
noncomputable def F34_told : Nat → Option SealT := fun id => none
theorem F34_ok : FOK Tryz.prog n_F34 F34_sh F34_fo F34 :=
  fn_ok (E := F34_E) (F34_Eok) (told := F34_told) (fl := []) (c := bodyOf fn_F34) (s := F34_sh) (l := F34_fo) (tree := F34_t) fnat_F34 (by kernel_rfl) (by kernel_rfl) (by kernel_rfl) (loopsOK_of (ls := []) (by kernel_rfl) trivial) (fun v => by kernel_rfl)

def qcL (n : Nat) (e d : Dg) : List Int := (List.range n).map fun (i : Nat) => cntD e (i : Int) - cntD d (i : Int)
def qcR (n : Int) (ds : List Dg) (d : Dg) : (Unit × Bool) × List Int := if isTri n ds = true ∧ d ∈ ds then (((), true), qcL n.toNat (othD n.toNat ds d) d) else (((), false), [])
theorem F34_eq (n : Int) (ds : List Dg) (d : Dg) (hl : ds.length < 4611686018427387904) : F34 (n, (ds, d)) = some (qcR n ds d) := by
  have hf := F77_eq n ds d hl
  unfold qcR
  by_cases c : isTri n ds = true ∧ d ∈ ds
  · have hn := (isTri_iff _ _).1 c.1
    obtain ⟨N, rfl⟩ := Int.eq_ofNat_of_zero_le (show 0 ≤ n by omega)
    obtain ⟨p, q, ht, hp0, hqn, hpq⟩ := thirds_two c.1 c.2
    have ho : othD N ds d = (p, q) := by unfold othD; rw [ht]
    have hoi := F69_eq c.1 c.2
    have gd := (tri_rng c.1).1 d c.2
    rw [if_pos c, Int.toNat_natCast, ho]
    rw [ho] at hoi
    obtain ⟨x, y⟩ := d
    dsimp only at gd hpq
    obtain ⟨X, rfl⟩ := Int.eq_ofNat_of_zero_le gd.1
    obtain ⟨Y, rfl⟩ := Int.eq_ofNat_of_zero_le (show 0 ≤ y by omega)
    obtain ⟨P, rfl⟩ := Int.eq_ofNat_of_zero_le hp0
    obtain ⟨Q, rfl⟩ := Int.eq_ofNat_of_zero_le (show 0 ≤ q by omega)
    have wm : w64 (0 - 1) = -1 := by decide
    have wp : w64 (0 + 1) = 1 := by decide
    have g1 : (List.replicate N (0 : Int))[X]? = some 0 := by rw [List.getElem?_replicate, if_pos (by omega)]
    have g2 : ((List.replicate N (0 : Int)).set X (-1))[Y]? = some 0 := by rw [List.getElem?_set_ne (by omega), List.getElem?_replicate, if_pos (by omega)]
    have g3 : (((List.replicate N (0 : Int)).set X (-1)).set Y (-1))[P]? = some 0 := by rw [List.getElem?_set_ne (by omega), List.getElem?_set_ne (by omega), List.getElem?_replicate, if_pos (by omega)]
    have g4 : ((((List.replicate N (0 : Int)).set X (-1)).set Y (-1)).set P 1)[Q]? = some 0 := by rw [List.getElem?_set_ne (by omega), List.getElem?_set_ne (by omega), List.getElem?_set_ne (by omega), List.getElem?_replicate, if_pos (by omega)]
    have hfin : ((((List.replicate N (0 : Int)).set X (-1)).set Y (-1)).set P 1).set Q 1 = qcL N ((P : Int), (Q : Int)) ((X : Int), (Y : Int)) := by
      apply List.ext_getElem?
      intro i
      unfold qcL cntD
      simp only [List.getElem?_set, List.getElem?_replicate, List.length_set, List.length_replicate, List.getElem?_map]
      by_cases hi : i < N
      · rw [List.getElem?_range hi, Option.map_some]
        by_cases c1 : Q = i
        · subst c1; rw [if_pos rfl, if_pos hi, if_neg (show ¬ (P : Int) = (Q : Int) by omega), if_pos rfl, if_neg (show ¬ (X : Int) = (Q : Int) by omega), if_neg (show ¬ (Y : Int) = (Q : Int) by omega)]; rfl
        by_cases c2 : P = i
        · subst c2; rw [if_neg c1, if_pos rfl, if_pos hi, if_pos rfl, if_neg (show ¬ (Q : Int) = (P : Int) by omega), if_neg (show ¬ (X : Int) = (P : Int) by omega), if_neg (show ¬ (Y : Int) = (P : Int) by omega)]; rfl
        by_cases c3 : Y = i
        · subst c3; rw [if_neg c1, if_neg c2, if_pos rfl, if_pos hi, if_neg (show ¬ (P : Int) = (Y : Int) by omega), if_neg (show ¬ (Q : Int) = (Y : Int) by omega), if_neg (show ¬ (X : Int) = (Y : Int) by omega), if_pos rfl]; rfl
        by_cases c4 : X = i
        · subst c4; rw [if_neg c1, if_neg c2, if_neg c3, if_pos rfl, if_pos hi, if_neg (show ¬ (P : Int) = (X : Int) by omega), if_neg (show ¬ (Q : Int) = (X : Int) by omega), if_pos rfl, if_neg (show ¬ (Y : Int) = (X : Int) by omega)]; rfl
        rw [if_neg c1, if_neg c2, if_neg c3, if_neg c4, if_pos hi, if_neg (show ¬ (P : Int) = (i : Int) by omega), if_neg (show ¬ (Q : Int) = (i : Int) by omega), if_neg (show ¬ (X : Int) = (i : Int) by omega), if_neg (show ¬ (Y : Int) = (i : Int) by omega)]; rfl
      · rw [List.getElem?_eq_none (by simp; omega), if_neg (show ¬ Q = i by omega), if_neg (show ¬ P = i by omega), if_neg (show ¬ Y = i by omega), if_neg (show ¬ X = i by omega), if_neg hi]; rfl
    rw [F34, F34_t, T.run_sub, hf, Option.bind_some, T.run_test, if_neg (by simp [c.1, c.2]), T.run_test, if_pos (decide_eq_true (by rw [Int.toNat_natCast]; omega)), T.run_sub, hoi, Option.bind_some]
    simp only [Int.toNat_natCast, Nat.zero_add]
    rw [T.run_test, if_pos (decide_eq_true (by omega)), T.run_sub, g1, Option.bind_some, T.run_test, if_pos (decide_eq_true (by omega)), T.run_sub, Option.bind_some]
    simp only [wm]
    rw [T.run_test, if_pos (decide_eq_true (by omega)), T.run_sub, g2, Option.bind_some, T.run_test, if_pos (decide_eq_true (by omega)), T.run_sub, Option.bind_some]
    simp only [wm]
    rw [T.run_test, if_pos (decide_eq_true (by omega)), T.run_sub, g3, Option.bind_some, T.run_test, if_pos (decide_eq_true (by omega)), T.run_sub, Option.bind_some]
    simp only [wp]
    rw [T.run_test, if_pos (decide_eq_true (by omega)), T.run_sub, g4, Option.bind_some, T.run_test, if_pos (decide_eq_true (by omega)), T.run_sub, Option.bind_some]
    simp only [wp, hfin]
    rw [T.run_test, if_pos (by simp [qcL]), T.run_ret]
  · obtain ⟨x, y⟩ := d
    rw [F34, F34_t, T.run_sub, hf, Option.bind_some, T.run_test, if_pos (by simp only [Bool.not_eq_true', Bool.and_eq_false_iff, decide_eq_false_iff_not]; by_cases c1 : isTri n ds = true; exact .inr fun h => c ⟨c1, h⟩; exact .inl (by simpa using c1)), T.run_test, if_pos rfl, T.run_ret, if_neg c]


def F54_sh : FSh := ⟨[(.one (.si .i64)), (.one (.sl (.pair (.int .i64) (.int .i64)) false false))], []⟩

def F54_L3_sh : LSh := ⟨(fun ex => match ex with | .norm => [(1, none), (5, none), (12, none), (13, none)] | .exit i => if i = 0 then [(1, none), (5, none)] else [] | .ret => [(4, none)]), [(1, (.one (.sl (.pair (.int .i64) (.int .i64)) false false))), (5, (.one (.rw 0 0))), (12, (.one (.si .i64))), (13, (.one (.si .i64)))], [(.row 0 (.int .i64))], [⟨(.exit 0), [(1, (.one (.sl (.pair (.int .i64) (.int .i64)) false false))), (5, (.one (.rw 0 0)))], [(.row 0 (.int .i64))]⟩], [], []⟩
noncomputable def F54_L3_step : ((List ((Int × Int)) × Unit × Int × Int) × List (Int)) → T (((List ((Int × Int)) × Unit × Int × Int) × List (Int)) ⊕ ((List ((Int × Int)) × Unit) × List (Int))) := fun ((ds, (), t12, t13), out) =>
 (.test (decide (t13 < t12))
 (.test (decide ((0 ≤ t13) ∧ (t13 < ((List.length out) : Int))))
 (.sub (out[(0 + (Int.toNat t13))]?) fun z0 =>
 (.test (decide ((0 = 0) ∧ ((List.length out) = (List.length (List.set out (0 + (Int.toNat t13)) (1 : Int))))))
 (.ret (Sum.inl ((ds, ((), (t12, (w64 (t13 + 1))))), (List.set out (0 + (Int.toNat t13)) (1 : Int)))))
 .fail))
 .fail)
 (.test (decide ((0 = 0) ∧ ((List.length out) = (List.length out))))
 (.ret (Sum.inr ((ds, ()), out)))
 .fail))
noncomputable def F54_L3 (v : ((List ((Int × Int)) × Unit × Int × Int) × List (Int))) : Option ((List ((Int × Int)) × Unit) × List (Int)) := loopO (fun v => (F54_L3_step v).run) v

def F54_L8_sh : LSh := ⟨(fun ex => match ex with | .norm => [(5, none), (20, none), (21, none), (22, none)] | .exit i => if i = 2 then [(5, none)] else [] | .ret => [(4, none)]), [(5, (.one (.rw 0 0))), (20, (.one (.sl (.pair (.int .i64) (.int .i64)) false false))), (21, (.one (.si .i64))), (22, (.one (.si .i64)))], [(.row 0 (.int .i64))], [⟨(.exit 2), [(5, (.one (.rw 0 0)))], [(.row 0 (.int .i64))]⟩], [], []⟩
noncomputable def F54_L8_step : ((Unit × List ((Int × Int)) × Int × Int) × List (Int)) → T (((Unit × List ((Int × Int)) × Int × Int) × List (Int)) ⊕ (Unit × List (Int))) := fun (((), t20, t21, t22), out) =>
 (.test (decide (t22 < t21))
 (.test (decide ((0 ≤ t22) ∧ (t22 < ((List.length t20) : Int))))
 (.sub (t20[(Int.toNat t22)]?) fun z0 =>
 (.test (decide ((0 ≤ z0.1) ∧ (z0.1 < ((List.length out) : Int))))
 (.sub (out[(0 + (Int.toNat z0.1))]?) fun z1 =>
 (.test (decide ((0 ≤ z0.1) ∧ (z0.1 < ((List.length out) : Int))))
 (.sub (out[(0 + (Int.toNat z0.1))]?) fun z2 =>
 (.test (decide ((0 ≤ z0.2) ∧ (z0.2 < ((List.length out) : Int))))
 (.sub ((List.set out (0 + (Int.toNat z0.1)) (w64 (z1 + 1)))[(0 + (Int.toNat z0.2))]?) fun z3 =>
 (.test (decide ((0 ≤ z0.2) ∧ (z0.2 < ((List.length out) : Int))))
 (.sub ((List.set out (0 + (Int.toNat z0.1)) (w64 (z1 + 1)))[(0 + (Int.toNat z0.2))]?) fun z4 =>
 (.test (decide ((0 = 0) ∧ ((List.length out) = (List.length (List.set (List.set out (0 + (Int.toNat z0.1)) (w64 (z1 + 1))) (0 + (Int.toNat z0.2)) (w64 (z3 + 1)))))))
 (.ret (Sum.inl (((), (t20, (t21, (w64 (t22 + 1))))), (List.set (List.set out (0 + (Int.toNat z0.1)) (w64 (z1 + 1))) (0 + (Int.toNat z0.2)) (w64 (z3 + 1))))))
 .fail))
 .fail))
 .fail))
 .fail))
 .fail))
 .fail)
 (.test (decide ((0 = 0) ∧ ((List.length out) = (List.length out))))
 (.ret (Sum.inr ((), out)))
 .fail))
noncomputable def F54_L8 (v : ((Unit × List ((Int × Int)) × Int × Int) × List (Int))) : Option (Unit × List (Int)) := loopO (fun v => (F54_L8_step v).run) v

def F54_fo : List FO := [⟨[(.one (.rw 0 0))], [(.row 0 (.int .i64))]⟩]
noncomputable def F54_t : (Int × List ((Int × Int))) → T (Unit × List (Int)) := fun (n, ds) =>
 (.test (decide ((0 ≤ n) ∧ ((n ≤ n) ∧ (((Int.toNat n) * 9) ≤ 140737488355328))))
 (.test (decide ((0 = 0) ∧ ((Int.toNat n) = (List.length (List.replicate (Int.toNat n) (0 : Int))))))
 (.sub (F54_L3 ((ds, ((), (((Int.toNat n) : Int), (0 : Int)))), (List.replicate (Int.toNat n) (0 : Int)))) fun z0 =>
 (.test (decide ((0 = 0) ∧ ((List.length z0.2) = (List.length z0.2))))
 (.sub (F54_L8 (((), (z0.1.1, (((List.length z0.1.1) : Int), (0 : Int)))), z0.2)) fun z1 =>
 (.test (decide ((0 = 0) ∧ ((List.length z1.2) = (List.length z1.2))))
 (.ret ((), z1.2))
 .fail))
 .fail))
 .fail)
 .fail)
noncomputable def F54 (v : (Int × List ((Int × Int)))) : Option (Unit × List (Int)) := (F54_t v).run
noncomputable def F54_E : TEnv := E0
theorem F54_Eok : (F54_E).OK := E0ok
noncomputable def F54_told : Nat → Option SealT := fun id => if id = 3 then some (LSh.told F54_L3_sh 0 (F54_L3_step)) else if id = 8 then some (LSh.told F54_L8_sh 0 (F54_L8_step)) else none
theorem F54_L3_ok : ToldOK Tryz.prog 0 (loopAt (bodyOf fn_F54) [0]) (LSh.told F54_L3_sh 0 (F54_L3_step)) :=
  loop_ok (E := F54_E) (F54_Eok) (told := F54_told) (l := F54_L3_sh) (step := F54_L3_step) (loopsOK_of (ls := []) (by kernel_rfl) trivial) (by kernel_rfl) (fun v => by kernel_rfl)
theorem F54_L8_ok : ToldOK Tryz.prog 0 (loopAt (bodyOf fn_F54) [1]) (LSh.told F54_L8_sh 0 (F54_L8_step)) :=
  loop_ok (E := F54_E) (F54_Eok) (told := F54_told) (l := F54_L8_sh) (step := F54_L8_step) (loopsOK_of (ls := []) (by kernel_rfl) trivial) (by kernel_rfl) (fun v => by kernel_rfl)
theorem F54_ok : FOK Tryz.prog n_F54 F54_sh F54_fo F54 :=
  fn_ok (E := F54_E) (F54_Eok) (told := F54_told) (fl := []) (c := bodyOf fn_F54) (s := F54_sh) (l := F54_fo) (tree := F54_t) fnat_F54 (by kernel_rfl) (by kernel_rfl) (by kernel_rfl) (loopsOK_of (ls := [loopAt (bodyOf fn_F54) [0], loopAt (bodyOf fn_F54) [1]]) (by kernel_rfl) ⟨.inr ⟨_, by kernel_rfl, F54_L3_ok⟩, ⟨.inr ⟨_, by kernel_rfl, F54_L8_ok⟩, trivial⟩⟩) (fun v => by kernel_rfl)

theorem F54_eq (n : Nat) (ds : List Dg) (hn : 1 ≤ n ∧ n ≤ 1000000) (hl : ds.length < 1000000) (h : ∀ d ∈ ds, 0 ≤ d.1 ∧ d.1 < d.2 ∧ d.2 < (n : Int)) : F54 ((n : Int), ds) = some ((), quid n ds) := by
  have hones : ∀ m k, k + m = n → F54_L3 ((ds, ((), ((n : Int), (k : Int)))), List.replicate k 1 ++ List.replicate (n - k) 0) = some ((ds, ()), List.replicate n 1) := by
    intro m
    induction m with
    | zero =>
      intro k hk
      have : k = n := by omega
      subst this
      rw [Nat.sub_self, List.replicate_zero, List.append_nil]
      simp only [F54_L3]
      exact loopO_done (by simp [F54_L3_step, T.run])
    | succ m ih =>
      intro k hk
      have ih := ih (k + 1) (by omega)
      simp only [F54_L3] at ih ⊢
      rw [← ih]
      refine loopO_next ?_
      have hlen : (List.replicate k (1 : Int) ++ List.replicate (n - k) 0).length = n := by simp; omega
      have c0 : (k : Int) < (n : Int) := by omega
      have c1 : (0 : Int) ≤ (k : Int) ∧ (k : Int) < (n : Int) := by omega
      have w1 : w64 ((k : Int) + 1) = ((k + 1 : Nat) : Int) := by rw [w64_id (by omega) (by omega)]; omega
      have hs : (List.replicate k (1 : Int) ++ List.replicate (n - k) 0).set k 1 = List.replicate (k + 1) 1 ++ List.replicate (n - (k + 1)) 0 := by
        rw [List.set_append_right _ _ (by simp), List.length_replicate, Nat.sub_self, show n - k = (n - (k + 1)) + 1 by omega, List.replicate_succ, List.set_cons_zero, List.replicate_succ', List.append_assoc]
        rfl
      have g0 : ∃ x, (List.replicate k (1 : Int) ++ List.replicate (n - k) 0)[k]? = some x := ⟨_, List.getElem?_eq_getElem (by rw [hlen]; omega)⟩
      obtain ⟨x, g0⟩ := g0
      simp only [F54_L3_step, T.run, hlen, c0, c1, decide_true, if_true, and_self, Int.toNat_natCast, Nat.zero_add, g0, Option.bind_some, hs, w1, List.length_set, true_and]
      have hlen2 : n = (List.replicate (k + 1) (1 : Int) ++ List.replicate (n - (k + 1)) 0).length := by simp; omega
      rw [← hlen2]
      simp
  have hl' := loop_fold (step := fun v => (F54_L8_step v).run) (xs := ds) (fun k (s : List Int) => s.length = n ∧ ∀ p, p < n → 0 ≤ s.getD p 0 ∧ s.getD p 0 ≤ k + 1) (fun k s => (((), (ds, ((ds.length : Int), (k : Int)))), s)) bumpD (fun s => ((), s))
    (fun k s d hP hd => by
      obtain ⟨hs, hb⟩ := hP
      have hlt := getElem?_lt hd
      obtain ⟨q1, q2, q3⟩ := h d (List.mem_of_getElem? hd)
      refine ⟨?_, by rw [bumpD_length, hs], fun p hp => ?_⟩
      · have c0 : (k : Int) < (ds.length : Int) := by omega
        have c1 : (0 : Int) ≤ (k : Int) ∧ (k : Int) < (ds.length : Int) := by omega
        have w1 : w64 ((k : Int) + 1) = ((k + 1 : Nat) : Int) := by rw [w64_id (by omega) (by omega)]; omega
        have c2 : 0 ≤ d.1 ∧ d.1 < (s.length : Int) := by omega
        have c3 : 0 ≤ d.2 ∧ d.2 < (s.length : Int) := by omega
        have b1 := hb d.1.toNat (by omega)
        have b2 := hb d.2.toNat (by omega)
        have g1 : s[d.1.toNat]? = some (s.getD d.1.toNat 0) := by rw [List.getD_eq_getElem?_getD, List.getElem?_eq_getElem (by omega)]; rfl
        have g2 : s[d.2.toNat]? = some (s.getD d.2.toNat 0) := by rw [List.getD_eq_getElem?_getD, List.getElem?_eq_getElem (by omega)]; rfl
        have w2 : w64 (s.getD d.1.toNat 0 + 1) = s.getD d.1.toNat 0 + 1 := w64_id (by omega) (by omega)
        have w3 : w64 (s.getD d.2.toNat 0 + 1) = s.getD d.2.toNat 0 + 1 := w64_id (by omega) (by omega)
        have g3 : (s.set d.1.toNat (s.getD d.1.toNat 0 + 1))[d.2.toNat]? = some (s.getD d.2.toNat 0) := by rw [List.getElem?_set_ne (by omega)]; exact g2
        simp only [F54_L8_step, T.run, c0, c1, c2, c3, decide_true, if_true, and_self, Int.toNat_natCast, hd, Option.bind_some, Nat.zero_add, g1, w2, g3, w3, w1]
        simp [bumpD]
      · rw [bumpD_get q1 q2 (by omega) (by omega)]
        have := hb p hp
        have : 0 ≤ cntD d p ∧ cntD d p ≤ 1 := by unfold cntD; split <;> split <;> omega
        omega)
    (fun s hs => by simp [F54_L8_step, T.run])
    (List.replicate n 1) ⟨by simp, fun p hp => by rw [List.getD_eq_getElem?_getD, List.getElem?_replicate, if_pos hp]; simp⟩
  have hq : ds.foldl bumpD (List.replicate n 1) = quid n ds := by
    obtain ⟨f1, f2⟩ := bump_fold n ds (List.replicate n 1) (by simp) h
    refine List.ext_getElem (by rw [f1]; simp [quid]) fun p hp _ => ?_
    have := f2 p (by omega)
    rw [List.getD_eq_getElem?_getD, List.getElem?_eq_getElem hp, List.getD_eq_getElem?_getD, List.getElem?_replicate, if_pos (by omega)] at this
    simp only [Option.getD_some] at this
    rw [this]
    simp [quid]
  have h0 := hones n 0 (by omega)
  rw [List.replicate_zero, List.nil_append, Nat.sub_zero] at h0
  simp only [Int.natCast_zero] at hl' h0
  have c0 : (0 : Int) ≤ (n : Int) ∧ (n : Int) ≤ (n : Int) ∧ n * 9 ≤ 140737488355328 := by omega
  simp only [F54, F54_t, T.run, Int.toNat_natCast, c0, and_self, decide_true, if_true, List.length_replicate, true_and, h0, Option.bind_some, F54_L8]
  rw [hl'.1, hq]
  simp


def F35_sh : FSh := ⟨[(.one (.si .i64)), (.one (.sl (.pair (.int .i64) (.int .i64)) false false)), (.ag [(.si .i64), (.si .i64)])], []⟩

def F35_L5_sh : LSh := ⟨(fun ex => match ex with | .norm => [(8, none), (9, none), (31, none), (32, none)] | .exit i => if i = 0 then [(9, none)] else [] | .ret => [(6, none), (7, none)]), [(8, (.one (.rw 0 0))), (9, (.one (.rw 1 0))), (31, (.one (.si .i64))), (32, (.one (.si .i64)))], [(.row 0 (.int .i64)), (.row 0 (.int .i64))], [⟨(.exit 0), [(9, (.one (.rw 0 0)))], [(.row 0 (.int .i64))]⟩], [], []⟩
noncomputable def F35_L5_step : ((Unit × Unit × Int × Int) × (List (Int) × List (Int))) → T (((Unit × Unit × Int × Int) × (List (Int) × List (Int))) ⊕ (Unit × List (Int))) := fun (((), (), t31, t32), (before, out)) =>
 (.test (decide (t32 < t31))
 (.test (decide ((0 ≤ t32) ∧ (t32 < ((List.length out) : Int))))
 (.sub (out[(0 + (Int.toNat t32))]?) fun z0 =>
 (.test (decide ((0 ≤ t32) ∧ (t32 < ((List.length before) : Int))))
 (.sub (before[(0 + (Int.toNat t32))]?) fun z1 =>
 (.test (decide ((0 ≤ t32) ∧ (t32 < ((List.length out) : Int))))
 (.sub (out[(0 + (Int.toNat t32))]?) fun z2 =>
 (.test (decide ((0 = 0) ∧ ((List.length before) = (List.length before))))
 (.test (decide ((0 = 0) ∧ ((List.length out) = (List.length (List.set out (0 + (Int.toNat t32)) (w64 (z0 - z1)))))))
 (.ret (Sum.inl (((), ((), (t31, (w64 (t32 + 1))))), (before, (List.set out (0 + (Int.toNat t32)) (w64 (z0 - z1)))))))
 .fail)
 .fail))
 .fail))
 .fail))
 .fail)
 (.test (decide ((0 = 0) ∧ ((List.length out) = (List.length out))))
 (.ret (Sum.inr ((), out)))
 .fail))
noncomputable def F35_L5 (v : ((Unit × Unit × Int × Int) × (List (Int) × List (Int)))) : Option (Unit × List (Int)) := loopO (fun v => (F35_L5_step v).run) v

def F35_fo : List FO := [⟨[(.one (.rw 0 0)), (.one .sb)], [(.row 0 (.int .i64))]⟩]
noncomputable def F35_t : (Int × List ((Int × Int)) × (Int × Int)) → T ((Unit × Bool) × List (Int)) := fun (n, ds, (d_0, d_1)) =>
 (.sub (F79 (n, ds)) fun z0 =>
 (.test (! z0)
 (.test true
 (.ret (((), false), ([] : List (Int))))
 .fail)
 (.sub (F106 (ds, (d_0, d_1))) fun z1 =>
 (.test (! z1)
 (.test true
 (.ret (((), false), ([] : List (Int))))
 .fail)
 (.sub (F54 (n, ds)) fun z2 =>
 (.sub (F80 (n, (ds, (d_0, d_1)))) fun z3 =>
 (.test (decide ((0 + (List.length z3.2)) ≤ (List.length z3.2)))
 (.sub (F54 (n, (win z3.2 0 (List.length z3.2)))) fun z4 =>
 (.test (decide ((0 = 0) ∧ ((List.length z2.2) = (List.length z2.2))))
 (.test (decide ((0 = 0) ∧ ((List.length z4.2) = (List.length z4.2))))
 (.sub (F35_L5 (((), ((), (((List.length z4.2) : Int), (0 : Int)))), (z2.2, z4.2))) fun z5 =>
 (.test (decide ((0 = 0) ∧ ((List.length z5.2) = (List.length z5.2))))
 (.ret (((), true), z5.2))
 .fail))
 .fail)
 .fail))
 .fail)))))))
noncomputable def F35 (v : (Int × List ((Int × Int)) × (Int × Int))) : Option ((Unit × Bool) × List (Int)) := (F35_t v).run
noncomputable def F35_E : TEnv := ((((E0.add1 n_F79 F79_sh F79_fo F79).add1 n_F106 F106_sh F106_fo F106).add1 n_F54 F54_sh F54_fo F54).add1 n_F80 F80_sh F80_fo F80)
theorem F35_Eok : (F35_E).OK := ((((E0ok.add1 F79_ok).add1 F106_ok).add1 F54_ok).add1 F80_ok)
noncomputable def F35_told : Nat → Option SealT := fun id => if id = 5 then some (LSh.told F35_L5_sh 0 (F35_L5_step)) else none
theorem F35_L5_ok : ToldOK Tryz.prog 0 (loopAt (bodyOf fn_F35) [0]) (LSh.told F35_L5_sh 0 (F35_L5_step)) :=
  loop_ok (E := F35_E) (F35_Eok) (told := F35_told) (l := F35_L5_sh) (step := F35_L5_step) (loopsOK_of (ls := []) (by kernel_rfl) trivial) (by kernel_rfl) (fun v => by kernel_rfl)
theorem F35_ok : FOK Tryz.prog n_F35 F35_sh F35_fo F35 :=
  fn_ok (E := F35_E) (F35_Eok) (told := F35_told) (fl := []) (c := bodyOf fn_F35) (s := F35_sh) (l := F35_fo) (tree := F35_t) fnat_F35 (by kernel_rfl) (by kernel_rfl) (by kernel_rfl) (loopsOK_of (ls := [loopAt (bodyOf fn_F35) [0]]) (by kernel_rfl) ⟨.inr ⟨_, by kernel_rfl, F35_L5_ok⟩, trivial⟩) (fun v => by kernel_rfl)

theorem flip_cnt {n : Nat} {ds : List Dg} (h : isTri n ds = true) {d : Dg} (hd : d ∈ ds) (i : Int) : cnt (flipD n ds d) i = cnt ds i + cntD (othD n ds d) i - cntD d i := by
  have e1 : cnt (flipD n ds d) i = cnt (othD n ds d :: ds.erase d) i := cnt_perm ((sortD_perm _).trans (List.perm_append_comm (l₂ := [othD n ds d]))) i
  have e2 : cnt ds i = cnt (d :: ds.erase d) i := cnt_perm (List.perm_cons_erase hd) i
  rw [cnt_cons] at e1 e2
  omega
theorem F35_eq (n : Int) (ds : List Dg) (d : Dg) (hl : ds.length < 4611686018427387904) : F35 (n, (ds, d)) = some (qcR n ds d) := by
  have hf := F106_eq ds d hl
  unfold qcR
  obtain ⟨x, y⟩ := d
  rw [F35, F35_t, T.run_sub, F79_eq n ds hl, Option.bind_some, T.run_test]
  by_cases c1 : isTri n ds = true
  · rw [c1, if_neg (by decide), T.run_sub, hf, Option.bind_some, T.run_test]
    have hn := (isTri_iff _ _).1 c1
    obtain ⟨N, rfl⟩ := Int.eq_ofNat_of_zero_le (show 0 ≤ n by omega)
    by_cases c2 : (x, y) ∈ ds
    · have g := tri_rng c1
      have ft := flip_tri c1 c2
      have gf := tri_rng ft
      have q1 := F54_eq N ds (by omega) (by omega) (fun d hd => by have := g.1 d hd; omega)
      have q2 := F54_eq N (flipD N ds (x, y)) (by omega) (by omega) (fun d hd => by have := gf.1 d hd; omega)
      have ql : ∀ es : List Dg, (quid N es).length = N := fun es => by simp [quid]
      have qg : ∀ (es : List Dg) (k : Nat), k < N → (quid N es)[k]? = some (1 + cnt es (k : Int)) := fun es k hk => by simp [quid, hk]
      have cb : ∀ es : List Dg, es.length ≤ 12 → ∀ i, 0 ≤ cnt es i ∧ cnt es i ≤ 24 := fun es he i => by have := cnt_nn es i; omega
      -- what the list is after k steps
      have key : ∀ m k : Nat, k + m = N → F35_L5 (((), ((), ((N : Int), (k : Int)))), (quid N ds, (List.range N).map fun (i : Nat) => if i < k then cntD (othD N ds (x, y)) (i : Int) - cntD (x, y) (i : Int) else 1 + cnt (flipD N ds (x, y)) (i : Int))) = some ((), qcL N (othD N ds (x, y)) (x, y)) := by
        intro m
        induction m with
        | zero =>
          intro k hk
          simp only [F35_L5]
          refine loopO_done ?_
          rw [F35_L5_step, T.run_test, if_neg (by rw [decide_eq_true_eq]; omega), T.run_test, if_pos (by simp), T.run_ret]
          unfold qcL
          congr 3
          apply List.map_congr_left
          intro i hi
          rw [if_pos (by have := List.mem_range.1 hi; omega)]
        | succ m ih =>
          intro k hk
          have w1 : w64 ((k : Int) + 1) = ((k + 1 : Nat) : Int) := by rw [w64_id (by omega) (by omega)]; omega
          rw [← ih (k + 1) (by omega)]
          have hg : ((List.range N).map fun (i : Nat) => if i < k then cntD (othD N ds (x, y)) (i : Int) - cntD (x, y) (i : Int) else 1 + cnt (flipD N ds (x, y)) (i : Int))[k]? = some (1 + cnt (flipD N ds (x, y)) (k : Int)) := by
            rw [List.getElem?_map, List.getElem?_range (by omega), Option.map_some, if_neg (by omega)]
          have b1 := cb ds (by omega) (k : Int)
          have b2 := cb (flipD N ds (x, y)) (by omega) (k : Int)
          have wv : w64 (1 + cnt (flipD N ds (x, y)) (k : Int) - (1 + cnt ds (k : Int))) = cntD (othD N ds (x, y)) (k : Int) - cntD (x, y) (k : Int) := by
            rw [w64_id (by omega) (by omega), flip_cnt c1 c2]; omega
          have hset : ((List.range N).map fun (i : Nat) => if i < k then cntD (othD N ds (x, y)) (i : Int) - cntD (x, y) (i : Int) else 1 + cnt (flipD N ds (x, y)) (i : Int)).set k (cntD (othD N ds (x, y)) (k : Int) - cntD (x, y) (k : Int)) = (List.range N).map fun (i : Nat) => if i < k + 1 then cntD (othD N ds (x, y)) (i : Int) - cntD (x, y) (i : Int) else 1 + cnt (flipD N ds (x, y)) (i : Int) := by
            apply List.ext_getElem?
            intro i
            rw [List.getElem?_set, List.length_map, List.length_range]
            by_cases e : k = i
            · subst e
              rw [if_pos rfl, if_pos (by omega), List.getElem?_map, List.getElem?_range (by omega), Option.map_some, if_pos (by omega)]
            · rw [if_neg e, List.getElem?_map, List.getElem?_map]
              by_cases hi : i < N
              · rw [List.getElem?_range hi, Option.map_some, Option.map_some]
                congr 1
                by_cases c : i < k
                · rw [if_pos c, if_pos (by omega)]
                · rw [if_neg c, if_neg (by omega)]
              · rw [List.getElem?_eq_none (by simp; omega)]; rfl
          generalize hO : ((List.range N).map fun (i : Nat) => if i < k then cntD (othD N ds (x, y)) (i : Int) - cntD (x, y) (i : Int) else 1 + cnt (flipD N ds (x, y)) (i : Int)) = O at hg hset
          have hOl : O.length = N := by rw [← hO]; simp
          simp only [F35_L5]
          refine loopO_next ?_
          rw [F35_L5_step, T.run_test, if_pos (decide_eq_true (by omega)), T.run_test, if_pos (decide_eq_true (by omega)), T.run_sub, Nat.zero_add, Int.toNat_natCast, hg, Option.bind_some, T.run_test, if_pos (decide_eq_true (by rw [ql]; omega)), T.run_sub, qg ds k (by omega), Option.bind_some, T.run_test, if_pos (decide_eq_true (by omega)), T.run_sub, Option.bind_some, T.run_test, if_pos (by simp), T.run_test, if_pos (by simp), wv, T.run_ret, hset, w1]
      have hk := key N 0 (by omega)
      have h0 : ((List.range N).map fun (i : Nat) => if i < 0 then cntD (othD N ds (x, y)) (i : Int) - cntD (x, y) (i : Int) else 1 + cnt (flipD N ds (x, y)) (i : Int)) = quid N (flipD N ds (x, y)) := by
        unfold quid
        apply List.map_congr_left
        intro i _
        rw [if_neg (by omega)]
      rw [h0] at hk
      have hk' : F35_L5 (((), ((), ((N : Int), (0 : Int)))), (quid N ds, quid N (flipD N ds (x, y)))) = _ := hk
      rw [decide_eq_true c2, if_neg (by decide), T.run_sub, q1, Option.bind_some, T.run_sub, F80_eq c1 c2, Option.bind_some, T.run_test, if_pos (by simp), win_all, T.run_sub, q2, Option.bind_some, T.run_test, if_pos (by simp), T.run_test, if_pos (by simp), T.run_sub]
      dsimp only
      rw [ql, hk', Option.bind_some, T.run_test, if_pos (by simp), T.run_ret, if_pos ⟨rfl, c2⟩, Int.toNat_natCast]
    · rw [decide_eq_false c2, if_pos (by decide), T.run_test, if_pos rfl, T.run_ret, if_neg fun h => c2 h.2]
  · rw [if_pos (by simp at c1 ⊢; exact c1), T.run_test, if_pos rfl, T.run_ret, if_neg fun h => c1 h.1]


def F90_sh : FSh := ⟨[(.one (.sl (.pair (.int .i64) (.int .i64)) false false)), (.one (.sl (.pair (.int .i64) (.int .i64)) false false))], []⟩

def F90_L4_sh : LSh := ⟨(fun ex => match ex with | .norm => [(0, none), (1, none), (12, none), (13, none)] | .exit i => if i = 0 then [] else [] | .ret => [(4, none)]), [(0, (.one (.sl (.pair (.int .i64) (.int .i64)) false false))), (1, (.one (.sl (.pair (.int .i64) (.int .i64)) false false))), (12, (.one (.si .i64))), (13, (.one (.si .i64)))], [], [⟨.ret, [(4, (.one .sb))], []⟩, ⟨(.exit 0), [], []⟩], [], []⟩
noncomputable def F90_L4_step : (List ((Int × Int)) × List ((Int × Int)) × Int × Int) → T ((List ((Int × Int)) × List ((Int × Int)) × Int × Int) ⊕ (Bool ⊕ Unit)) := fun (a, b, t12, t13) =>
 (.test (decide (t13 < t12))
 (.test (decide ((0 ≤ t13) ∧ (t13 < ((List.length a) : Int))))
 (.sub (a[(Int.toNat t13)]?) fun z0 =>
 (.test (decide ((0 ≤ t13) ∧ (t13 < ((List.length b) : Int))))
 (.sub (b[(Int.toNat t13)]?) fun z1 =>
 (.test (! ((z0.1 == z1.1) && ((z0.2 == z1.2) && true)))
 (.ret (Sum.inr (Sum.inl false)))
 (.ret (Sum.inl (a, (b, (t12, (w64 (t13 + 1)))))))))
 .fail))
 .fail)
 (.ret (Sum.inr (Sum.inr ()))))
noncomputable def F90_L4 (v : (List ((Int × Int)) × List ((Int × Int)) × Int × Int)) : Option (Bool ⊕ Unit) := loopO (fun v => (F90_L4_step v).run) v

def F90_fo : List FO := [⟨[(.one .sb)], []⟩]
noncomputable def F90_t : (List ((Int × Int)) × List ((Int × Int))) → T Bool := fun (a, b) =>
 (.test (((List.length a) : Int) != ((List.length b) : Int))
 (.ret false)
 (.sub (F90_L4 (a, (b, (((List.length a) : Int), (0 : Int))))) fun z0 =>
 (.test (Sum.isLeft z0)
 (.sub (Sum.getLeft? z0) fun z1 =>
 (.ret z1))
 (.sub (Sum.getRight? z0) fun z2 =>
 (.ret true)))))
noncomputable def F90 (v : (List ((Int × Int)) × List ((Int × Int)))) : Option Bool := (F90_t v).run
noncomputable def F90_E : TEnv := E0
theorem F90_Eok : (F90_E).OK := E0ok
noncomputable def F90_told : Nat → Option SealT := fun id => if id = 4 then some (LSh.told F90_L4_sh 0 (F90_L4_step)) else none
theorem F90_L4_ok : ToldOK Tryz.prog 0 (loopAt (bodyOf fn_F90) [0]) (LSh.told F90_L4_sh 0 (F90_L4_step)) :=
  loop_ok (E := F90_E) (F90_Eok) (told := F90_told) (l := F90_L4_sh) (step := F90_L4_step) (loopsOK_of (ls := []) (by kernel_rfl) trivial) (by kernel_rfl) (fun v => by kernel_rfl)
theorem F90_ok : FOK Tryz.prog n_F90 F90_sh F90_fo F90 :=
  fn_ok (E := F90_E) (F90_Eok) (told := F90_told) (fl := []) (c := bodyOf fn_F90) (s := F90_sh) (l := F90_fo) (tree := F90_t) fnat_F90 (by kernel_rfl) (by kernel_rfl) (by kernel_rfl) (loopsOK_of (ls := [loopAt (bodyOf fn_F90) [0]]) (by kernel_rfl) ⟨.inr ⟨_, by kernel_rfl, F90_L4_ok⟩, trivial⟩) (fun v => by kernel_rfl)

theorem uCuts_val (a b : List (Int × Int)) (hl : a.length < 4611686018427387904) : F90 (a, b) = some (decide (a = b)) := by
  rw [F90, F90_t, T.run_test]
  by_cases he : a.length = b.length
  · have h := cmp_loop (step := fun v => (F90_L4_step v).run) a b (fun k => (a, (b, ((a.length : Int), (k : Int))))) he
      (fun k x y hx hy => by
        have k1 := getElem?_lt hx
        have k2 := getElem?_lt hy
        have w1 : w64 ((k : Int) + 1) = ((k + 1 : Nat) : Int) := by rw [w64_id (by omega) (by omega)]; omega
        rw [F90_L4_step, T.run_test, if_pos (decide_eq_true (by omega)), T.run_test, if_pos (decide_eq_true (by omega)), T.run_sub, Int.toNat_natCast, hx, Option.bind_some, T.run_test, if_pos (decide_eq_true (by omega)), T.run_sub, hy, Option.bind_some, T.run_test]
        by_cases e : x = y
        · rw [if_neg (by simp [e]), if_pos e, T.run_ret, w1]
        · rw [if_pos (by
            obtain ⟨x1, x2⟩ := x
            obtain ⟨y1, y2⟩ := y
            simp only [Prod.mk.injEq] at e
            by_cases e1 : x1 = y1
            · have e2 : x2 ≠ y2 := fun h => e ⟨e1, h⟩
              simp [e2]
            · simp [e1]), if_neg e, T.run_ret])
      (by rw [F90_L4_step, T.run_test, if_neg (by simp), T.run_ret])
    have h' : F90_L4 (a, (b, ((a.length : Int), (0 : Int)))) = _ := h
    rw [if_neg (by simp [he]), T.run_sub, h', Option.bind_some]
    by_cases e : a = b
    · rw [if_pos e, decide_eq_true e]; rfl
    · rw [if_neg e, decide_eq_false e]; rfl
  · rw [if_pos (by simp; omega), T.run_ret, decide_eq_false fun e => he (by rw [e])]


def F91_sh : FSh := ⟨[(.one (.sl (.int .i64) false false)), (.one (.sl (.int .i64) false false))], []⟩

def F91_L4_sh : LSh := ⟨(fun ex => match ex with | .norm => [(0, none), (1, none), (12, none), (13, none)] | .exit i => if i = 0 then [] else [] | .ret => [(4, none)]), [(0, (.one (.sl (.int .i64) false false))), (1, (.one (.sl (.int .i64) false false))), (12, (.one (.si .i64))), (13, (.one (.si .i64)))], [], [⟨.ret, [(4, (.one .sb))], []⟩, ⟨(.exit 0), [], []⟩], [], []⟩
noncomputable def F91_L4_step : (List (Int) × List (Int) × Int × Int) → T ((List (Int) × List (Int) × Int × Int) ⊕ (Bool ⊕ Unit)) := fun (a, b, t12, t13) =>
 (.test (decide (t13 < t12))
 (.test (decide ((0 ≤ t13) ∧ (t13 < ((List.length a) : Int))))
 (.sub (a[(Int.toNat t13)]?) fun z0 =>
 (.test (decide ((0 ≤ t13) ∧ (t13 < ((List.length b) : Int))))
 (.sub (b[(Int.toNat t13)]?) fun z1 =>
 (.test (z0 != z1)
 (.ret (Sum.inr (Sum.inl false)))
 (.ret (Sum.inl (a, (b, (t12, (w64 (t13 + 1)))))))))
 .fail))
 .fail)
 (.ret (Sum.inr (Sum.inr ()))))
noncomputable def F91_L4 (v : (List (Int) × List (Int) × Int × Int)) : Option (Bool ⊕ Unit) := loopO (fun v => (F91_L4_step v).run) v

def F91_fo : List FO := [⟨[(.one .sb)], []⟩]
noncomputable def F91_t : (List (Int) × List (Int)) → T Bool := fun (a, b) =>
 (.test (((List.length a) : Int) != ((List.length b) : Int))
 (.ret false)
 (.sub (F91_L4 (a, (b, (((List.length a) : Int), (0 : Int))))) fun z0 =>
 (.test (Sum.isLeft z0)
 (.sub (Sum.getLeft? z0) fun z1 =>
 (.ret z1))
 (.sub (Sum.getRight? z0) fun z2 =>
 (.ret true)))))
noncomputable def F91 (v : (List (Int) × List (Int))) : Option Bool := (F91_t v).run
noncomputable def F91_E : TEnv := E0
theorem F91_Eok : (F91_E).OK := E0ok
noncomputable def F91_told : Nat → Option SealT := fun id => if id = 4 then some (LSh.told F91_L4_sh 0 (F91_L4_step)) else none
theorem F91_L4_ok : ToldOK Tryz.prog 0 (loopAt (bodyOf fn_F91) [0]) (LSh.told F91_L4_sh 0 (F91_L4_step)) :=
  loop_ok (E := F91_E) (F91_Eok) (told := F91_told) (l := F91_L4_sh) (step := F91_L4_step) (loopsOK_of (ls := []) (by kernel_rfl) trivial) (by kernel_rfl) (fun v => by kernel_rfl)
theorem F91_ok : FOK Tryz.prog n_F91 F91_sh F91_fo F91 :=
  fn_ok (E := F91_E) (F91_Eok) (told := F91_told) (fl := []) (c := bodyOf fn_F91) (s := F91_sh) (l := F91_fo) (tree := F91_t) fnat_F91 (by kernel_rfl) (by kernel_rfl) (by kernel_rfl) (loopsOK_of (ls := [loopAt (bodyOf fn_F91) [0]]) (by kernel_rfl) ⟨.inr ⟨_, by kernel_rfl, F91_L4_ok⟩, trivial⟩) (fun v => by kernel_rfl)

theorem uSame_val (a b : List Int) (hl : a.length < 4611686018427387904) : F91 (a, b) = some (decide (a = b)) := by
  rw [F91, F91_t, T.run_test]
  by_cases he : a.length = b.length
  · have h := cmp_loop (step := fun v => (F91_L4_step v).run) a b (fun k => (a, (b, ((a.length : Int), (k : Int))))) he
      (fun k x y hx hy => by
        have k1 := getElem?_lt hx
        have k2 := getElem?_lt hy
        have w1 : w64 ((k : Int) + 1) = ((k + 1 : Nat) : Int) := by rw [w64_id (by omega) (by omega)]; omega
        rw [F91_L4_step, T.run_test, if_pos (decide_eq_true (by omega)), T.run_test, if_pos (decide_eq_true (by omega)), T.run_sub, Int.toNat_natCast, hx, Option.bind_some, T.run_test, if_pos (decide_eq_true (by omega)), T.run_sub, hy, Option.bind_some, T.run_test]
        by_cases e : x = y
        · rw [if_neg (by simp [e]), if_pos e, T.run_ret, w1]
        · rw [if_pos (by simp [e]), if_neg e, T.run_ret])
      (by rw [F91_L4_step, T.run_test, if_neg (by simp), T.run_ret])
    have h' : F91_L4 (a, (b, ((a.length : Int), (0 : Int)))) = _ := h
    rw [if_neg (by simp [he]), T.run_sub, h', Option.bind_some]
    by_cases e : a = b
    · rw [if_pos e, decide_eq_true e]; rfl
    · rw [if_neg e, decide_eq_false e]; rfl
  · rw [if_pos (by simp; omega), T.run_ret, decide_eq_false fun e => he (by rw [e])]


def F112_sh : FSh := ⟨[(.one (.sl (.pair (.int .i64) (.int .i64)) false false)), (.ag [(.si .i64), (.si .i64)])], []⟩

def F112_L2_sh : LSh := ⟨(fun ex => match ex with | .norm => [(3, none), (7, none), (8, none), (9, none)] | .exit i => if i = 0 then [] else [] | .ret => [(4, none)]), [(3, (.one (.pf 0 0 0))), (7, (.one (.sl (.pair (.int .i64) (.int .i64)) false false))), (8, (.one (.si .i64))), (9, (.one (.si .i64)))], [(.rcd 0 [(.si .i64), (.si .i64)])], [⟨.ret, [(4, (.one .sb))], []⟩, ⟨(.exit 0), [], []⟩], [], []⟩
noncomputable def F112_L2_step : ((Unit × List ((Int × Int)) × Int × Int) × (Int × Int)) → T (((Unit × List ((Int × Int)) × Int × Int) × (Int × Int)) ⊕ (Bool ⊕ Unit)) := fun (((), t7, t8, t9), (d_0, d_1)) =>
 (.test (decide (t9 < t8))
 (.test (decide ((0 ≤ t9) ∧ (t9 < ((List.length t7) : Int))))
 (.sub (t7[(Int.toNat t9)]?) fun z0 =>
 (.test ((z0.1 == d_0) && ((z0.2 == d_1) && true))
 (.ret (Sum.inr (Sum.inl true)))
 (.ret (Sum.inl (((), (t7, (t8, (w64 (t9 + 1))))), (d_0, d_1))))))
 .fail)
 (.ret (Sum.inr (Sum.inr ()))))
noncomputable def F112_L2 (v : ((Unit × List ((Int × Int)) × Int × Int) × (Int × Int))) : Option (Bool ⊕ Unit) := loopO (fun v => (F112_L2_step v).run) v

def F112_fo : List FO := [⟨[(.one .sb)], []⟩]
noncomputable def F112_t : (List ((Int × Int)) × (Int × Int)) → T Bool := fun (ds, (d_0, d_1)) =>
 (.sub (F112_L2 (((), (ds, (((List.length ds) : Int), (0 : Int)))), (d_0, d_1))) fun z0 =>
 (.test (Sum.isLeft z0)
 (.sub (Sum.getLeft? z0) fun z1 =>
 (.ret z1))
 (.sub (Sum.getRight? z0) fun z2 =>
 (.ret false))))
noncomputable def F112 (v : (List ((Int × Int)) × (Int × Int))) : Option Bool := (F112_t v).run
noncomputable def F112_E : TEnv := E0
theorem F112_Eok : (F112_E).OK := E0ok
noncomputable def F112_told : Nat → Option SealT := fun id => if id = 2 then some (LSh.told F112_L2_sh 0 (F112_L2_step)) else none
theorem F112_L2_ok : ToldOK Tryz.prog 0 (loopAt (bodyOf fn_F112) [0]) (LSh.told F112_L2_sh 0 (F112_L2_step)) :=
  loop_ok (E := F112_E) (F112_Eok) (told := F112_told) (l := F112_L2_sh) (step := F112_L2_step) (loopsOK_of (ls := []) (by kernel_rfl) trivial) (by kernel_rfl) (fun v => by kernel_rfl)
theorem F112_ok : FOK Tryz.prog n_F112 F112_sh F112_fo F112 :=
  fn_ok (E := F112_E) (F112_Eok) (told := F112_told) (fl := []) (c := bodyOf fn_F112) (s := F112_sh) (l := F112_fo) (tree := F112_t) fnat_F112 (by kernel_rfl) (by kernel_rfl) (by kernel_rfl) (loopsOK_of (ls := [loopAt (bodyOf fn_F112) [0]]) (by kernel_rfl) ⟨.inr ⟨_, by kernel_rfl, F112_L2_ok⟩, trivial⟩) (fun v => by kernel_rfl)

theorem uIn_val (ds : List Dg) (d : Dg) (hl : ds.length < 4611686018427387904) : F112 (ds, d) = some (decide (d ∈ ds)) := by
  obtain ⟨a, b⟩ := d
  have h := loop_find (step := fun v => (F112_L2_step v).run) (xs := ds) (fun e => decide (e = (a, b))) (fun k => (((), (ds, ((ds.length : Int), (k : Int)))), (a, b))) (fun k => .inl true) (.inr ())
    (fun k x hx => by
      have hk := getElem?_lt hx
      rw [F112_L2_step, T.run_test, if_pos (decide_eq_true (by omega)), T.run_test, if_pos (decide_eq_true (by omega)), T.run_sub, Int.toNat_natCast, hx, Option.bind_some, T.run_test, T.run_ret, T.run_ret, w64_id (by omega) (by omega)]
      obtain ⟨x1, x2⟩ := x
      by_cases e : x1 = a ∧ x2 = b
      · simp [e]
      · rw [if_neg (by simp; exact fun h1 h2 => e ⟨h1, h2⟩), decide_eq_false (by rw [Prod.mk.injEq]; exact e)]; simp)
    (by rw [F112_L2_step, T.run_test, if_neg (by simp), T.run_ret])
  have h' : F112_L2 (((), (ds, ((ds.length : Int), (0 : Int)))), (a, b)) = _ := h
  rw [F112, F112_t, T.run_sub, h', Option.bind_some]
  cases hf : ds.findIdx? (fun e => decide (e = (a, b))) with
  | none =>
    have : (a, b) ∉ ds := fun hm => by
      have := List.findIdx?_eq_none_iff.1 hf (a, b) hm
      simp at this
    rw [decide_eq_false this]; rfl
  | some k =>
    have : (a, b) ∈ ds := by
      obtain ⟨hlt, hk, _⟩ := List.findIdx?_eq_some_iff_getElem.1 hf
      rw [← of_decide_eq_true hk]; exact List.getElem_mem hlt
    rw [decide_eq_true this]; rfl


def F72_sh : FSh := ⟨[(.one (.si .i64)), (.one (.sl (.pair (.int .i64) (.int .i64)) false false)), (.one (.sl (.pair (.int .i64) (.int .i64)) false false))], []⟩

def F72_fo : List FO := [⟨[(.one .sb)], []⟩]
noncomputable def F72_t : (Int × List ((Int × Int)) × List ((Int × Int))) → T Bool := fun (n, a, b) =>
 (.sub (F27 (n, a)) fun z0 =>
 (.test z0
 (.sub (F27 (n, b)) fun z1 =>
 (.ret z1))
 (.ret false)))
noncomputable def F72 (v : (Int × List ((Int × Int)) × List ((Int × Int)))) : Option Bool := (F72_t v).run
noncomputable def F72_E : TEnv := (E0.add1 n_F27 F27_sh F27_fo F27)
theorem F72_Eok : (F72_E).OK := (E0ok.add1 F27_ok)
noncomputable def F72_told : Nat → Option SealT := fun id => none
theorem F72_ok : FOK Tryz.prog n_F72 F72_sh F72_fo F72 :=
  fn_ok (E := F72_E) (F72_Eok) (told := F72_told) (fl := []) (c := bodyOf fn_F72) (s := F72_sh) (l := F72_fo) (tree := F72_t) fnat_F72 (by kernel_rfl) (by kernel_rfl) (by kernel_rfl) (loopsOK_of (ls := []) (by kernel_rfl) trivial) (fun v => by kernel_rfl)

theorem F72_eq (n : Int) (a b : List Dg) (ha : a.length < 4611686018427387904) (hb : b.length < 4611686018427387904) : F72 (n, (a, b)) = some (isTri n a && isTri n b) := by
  rw [F72, F72_t, T.run_sub, F27_eq n a ha, Option.bind_some, T.run_test]
  cases isTri n a with
  | false => rfl
  | true => rw [if_pos rfl, T.run_sub, F27_eq n b hb, Option.bind_some, T.run_ret]; rfl


def F20_sh : FSh := ⟨[(.ag [(.si .i64), (.si .i64)]), (.one (.pb (.list false (.pair (.int .i64) (.int .i64)))))], []⟩

def F20_fo : List FO := [⟨[(.one .sb)], []⟩]
noncomputable def F20_t : ((Int × Int) × List ((Int × Int))) → T Bool := fun ((d_0, d_1), t1) =>
 (.sub ([t1][0]?) fun z0 =>
 (.sub (F12 (z0, (d_0, d_1))) fun z1 =>
 (.ret (! z1))))
noncomputable def F20 (v : ((Int × Int) × List ((Int × Int)))) : Option Bool := (F20_t v).run
noncomputable def F20_E : TEnv := (E0.add1 n_F12 F12_sh F12_fo F12)
theorem F20_Eok : (F20_E).OK := (E0ok.add1 F12_ok)
noncomputable def F20_told : Nat → Option SealT := fun id => none
theorem F20_ok : FOK Tryz.prog n_F20 F20_sh F20_fo F20 :=
  fn_ok (E := F20_E) (F20_Eok) (told := F20_told) (fl := []) (c := bodyOf fn_F20) (s := F20_sh) (l := F20_fo) (tree := F20_t) fnat_F20 (by kernel_rfl) (by kernel_rfl) (by kernel_rfl) (loopsOK_of (ls := []) (by kernel_rfl) trivial) (fun v => by kernel_rfl)

theorem F20_eq (d : Dg) (b : List Dg) (hl : b.length < 4611686018427387904) : F20 (d, b) = some (!decide (d ∈ b)) := by
  have h := F12_eq b d hl
  rw [hasD_mem] at h
  obtain ⟨x, y⟩ := d
  rw [F20, F20_t, T.run_sub, show ([b] : List (List Dg))[0]? = some b from rfl, Option.bind_some, T.run_sub, h, Option.bind_some, T.run_ret]


def F5_sh : FSh := ⟨[(.one (.sl (.pair (.int .i64) (.int .i64)) false false)), (.clo n_F20 [(.one (.pb (.list false (.pair (.int .i64) (.int .i64)))))])], []⟩

def F5_L2_sh : LSh := ⟨(fun ex => match ex with | .norm => [(0, none), (1, none), (7, none), (8, none)] | .exit i => if i = 0 then [] else [] | .ret => [(4, none)]), [(0, (.one (.sl (.pair (.int .i64) (.int .i64)) false false))), (1, (.clo n_F20 [(.one (.pb (.list false (.pair (.int .i64) (.int .i64)))))])), (7, (.one (.si .i64))), (8, (.one (.si .i64)))], [], [⟨.ret, [(4, (.one (.si .i64)))], []⟩, ⟨(.exit 0), [], []⟩], [], []⟩
noncomputable def F5_L2_step : (List ((Int × Int)) × List ((Int × Int)) × Int × Int) → T ((List ((Int × Int)) × List ((Int × Int)) × Int × Int) ⊕ (Int ⊕ Unit)) := fun (s, f_0, t7, t8) =>
 (.test (decide (t8 < t7))
 (.test (decide ((0 ≤ t8) ∧ (t8 < ((List.length s) : Int))))
 (.sub (s[(Int.toNat t8)]?) fun z0 =>
 (.sub (F20 (z0, f_0)) fun z1 =>
 (.test z1
 (.ret (Sum.inr (Sum.inl t8)))
 (.ret (Sum.inl (s, (f_0, (t7, (w64 (t8 + 1))))))))))
 .fail)
 (.ret (Sum.inr (Sum.inr ()))))
noncomputable def F5_L2 (v : (List ((Int × Int)) × List ((Int × Int)) × Int × Int)) : Option (Int ⊕ Unit) := loopO (fun v => (F5_L2_step v).run) v

def F5_fo : List FO := [⟨[(.one (.si .i64))], []⟩]
noncomputable def F5_t : (List ((Int × Int)) × List ((Int × Int))) → T Int := fun (s, f_0) =>
 (.sub (F5_L2 (s, (f_0, (((List.length s) : Int), (0 : Int))))) fun z0 =>
 (.test (Sum.isLeft z0)
 (.sub (Sum.getLeft? z0) fun z1 =>
 (.ret z1))
 (.sub (Sum.getRight? z0) fun z2 =>
 (.ret (-1)))))
noncomputable def F5 (v : (List ((Int × Int)) × List ((Int × Int)))) : Option Int := (F5_t v).run
noncomputable def F5_E : TEnv := (E0.add1 n_F20 F20_sh F20_fo F20)
theorem F5_Eok : (F5_E).OK := (E0ok.add1 F20_ok)
noncomputable def F5_told : Nat → Option SealT := fun id => if id = 2 then some (LSh.told F5_L2_sh 0 (F5_L2_step)) else none
theorem F5_L2_ok : ToldOK Tryz.prog 0 (loopAt (bodyOf fn_F11) [0]) (LSh.told F5_L2_sh 0 (F5_L2_step)) :=
  loop_ok (E := F5_E) (F5_Eok) (told := F5_told) (l := F5_L2_sh) (step := F5_L2_step) (loopsOK_of (ls := []) (by kernel_rfl) trivial) (by kernel_rfl) (fun v => by kernel_rfl)
theorem F5_ok : FOK Tryz.prog n_F11 F5_sh F5_fo F5 :=
  fn_ok (E := F5_E) (F5_Eok) (told := F5_told) (fl := []) (c := bodyOf fn_F11) (s := F5_sh) (l := F5_fo) (tree := F5_t) fnat_F11 (by kernel_rfl) (by kernel_rfl) (by kernel_rfl) (loopsOK_of (ls := [loopAt (bodyOf fn_F11) [0]]) (by kernel_rfl) ⟨.inr ⟨_, by kernel_rfl, F5_L2_ok⟩, trivial⟩) (fun v => by kernel_rfl)

theorem F5_eq (s b : List Dg) (hl : s.length < 4611686018427387904) (hb : b.length < 4611686018427387904) : F5 (s, b) = some (idxI (fun d => !decide (d ∈ b)) s) := by
  have h := loop_find (step := fun v => (F5_L2_step v).run) (xs := s) (fun d => !decide (d ∈ b)) (fun k => (s, (b, ((s.length : Int), (k : Int))))) (fun k => .inl ((k : Int))) (.inr ())
    (fun k x hx => by
      have hk := getElem?_lt hx
      rw [F5_L2_step, T.run_test, if_pos (decide_eq_true (by omega)), T.run_test, if_pos (decide_eq_true (by omega)), T.run_sub, Int.toNat_natCast, hx, Option.bind_some, T.run_sub, F20_eq x b hb, Option.bind_some, T.run_test, T.run_ret, T.run_ret, w64_id (by omega) (by omega)]
      by_cases c : x ∈ b <;> simp [c])
    (by rw [F5_L2_step, T.run_test, if_neg (by simp), T.run_ret])
  have h' : F5_L2 (s, (b, ((s.length : Int), (0 : Int)))) = _ := h
  rw [F5, F5_t, T.run_sub, h', Option.bind_some, idxI]
  cases s.findIdx? (fun d => !decide (d ∈ b)) <;> rfl



theorem del_loop {X : Type} {step : ((Unit × X × Int × Int) × List Dg) → Option (((Unit × X × Int × Int) × List Dg) ⊕ ((Unit × Int) × List Dg))} (x : X) (keep : Dg → Bool) (o : List Dg)
    (h1 : ∀ (s : List Dg) (i j : Nat) (d : Dg), s.length = o.length → i < j → j < s.length → s[j]? = some d → d ∈ o → keep d = true → step (((), (x, ((i : Int), (j : Int)))), s) = some (.inl (((), (x, (((i + 1 : Nat) : Int), ((j + 1 : Nat) : Int)))), s.set i d)))
    (h2 : ∀ (s : List Dg) (i j : Nat) (d : Dg), s.length = o.length → i < j → j < s.length → s[j]? = some d → d ∈ o → keep d = false → step (((), (x, ((i : Int), (j : Int)))), s) = some (.inl (((), (x, ((i : Int), ((j + 1 : Nat) : Int)))), s)))
    (h3 : ∀ (s : List Dg) (i : Nat), s.length = o.length → step (((), (x, ((i : Int), (o.length : Int)))), s) = some (.inr (((), (i : Int)), s))) :
    ∀ (m j : Nat) (s : List Dg) (i : Nat), j + m = o.length → s.length = o.length → i < j → s.take i = (o.take j).filter keep → s.drop j = o.drop j →
    ∃ (i' : Nat) (s' : List Dg), s'.length = o.length ∧ i' < o.length ∧ s'.take i' = o.filter keep ∧ loopO step (((), (x, ((i : Int), (j : Int)))), s) = some (((), (i' : Int)), s')
  | 0, j, s, i, hj, hs, hi, e1, e2 => by
    obtain rfl : j = o.length := by omega
    rw [List.take_length] at e1
    exact ⟨i, s, hs, hi, e1, loopO_done (h3 s i hs)⟩
  | m + 1, j, s, i, hj, hs, hi, e1, e2 => by
    have hlt : j < s.length := by omega
    have hlo : j < o.length := by omega
    have he : s[j] = o[j] := by
      rw [List.drop_eq_getElem_cons hlt, List.drop_eq_getElem_cons hlo] at e2
      exact (List.cons.inj e2).1
    have e2' : s.drop (j + 1) = o.drop (j + 1) := by
      rw [List.drop_eq_getElem_cons hlt, List.drop_eq_getElem_cons hlo] at e2
      exact (List.cons.inj e2).2
    have hg : s[j]? = some o[j] := by rw [List.getElem?_eq_getElem hlt, he]
    have htake : o.take (j + 1) = o.take j ++ [o[j]] := List.take_succ_eq_append_getElem hlo
    cases hf : keep o[j] with
    | true =>
      have e1' : (s.set i o[j]).take (i + 1) = (o.take (j + 1)).filter keep := by
        rw [List.take_succ_eq_append_getElem (by simp; omega), List.getElem_set_self, List.take_set_of_le (Nat.le_refl _), e1, htake, List.filter_append]
        simp [hf]
      rw [loopO_next (h1 s i j o[j] hs hi hlt hg (List.getElem_mem hlo) hf)]
      exact del_loop x keep o h1 h2 h3 m (j + 1) (s.set i o[j]) (i + 1) (by omega) (by simpa using hs) (by omega) e1' (by rw [List.drop_set_of_lt (by omega)]; exact e2')
    | false =>
      have e1' : s.take i = (o.take (j + 1)).filter keep := by
        rw [e1, htake, List.filter_append]
        simp [hf]
      rw [loopO_next (h2 s i j o[j] hs hi hlt hg (List.getElem_mem hlo) hf)]
      exact del_loop x keep o h1 h2 h3 m (j + 1) s i (by omega) hs (by omega) e1' e2'
def delT (idx : Option Int) (lp : Int → Int → Option ((Unit × Int) × List Dg)) (s : List Dg) : T ((Nat × Nat) × List Dg) :=
  (.test (decide ((0 + (List.length s)) ≤ (List.length s)))
  (.sub idx fun z0 =>
   (.test (z0 == (-1))
   (.ret ((0, (List.length s)), s))
   (.test (decide ((0 = 0) ∧ ((List.length s) = (List.length s))))
    (.sub (lp z0 (w64 (z0 + 1))) fun z1 =>
     (.test (decide (0 ≤ z1.1.2))
     (.test (decide (((Int.toNat z1.1.2) ≤ (List.length z1.2)) ∧ ((List.length z1.2) ≤ (List.length z1.2))))
      (.test (decide ((0 < ((List.length z1.2) - (Int.toNat z1.1.2))) ∧ (((0 + (Int.toNat z1.1.2)) + ((List.length z1.2) - (Int.toNat z1.1.2))) ≤ (List.length z1.2))))
       (.test (decide (0 ≤ z1.1.2))
        (.test (decide ((0 ≤ (Int.toNat z1.1.2)) ∧ ((Int.toNat z1.1.2) ≤ (List.length z1.2))))
         (.ret ((0, ((Int.toNat z1.1.2) - 0)), (spliceT z1.2 (0 + (Int.toNat z1.1.2)) (List.replicate ((List.length z1.2) - (Int.toNat z1.1.2)) ((0 : Int), (0 : Int))))))
         .fail)
        .fail)
       .fail)
      .fail)
     .fail))
    .fail)))
  .fail)
def delM : ((Nat × Nat) × List Dg) → T (Unit × List Dg) := fun ((o, n), r0) => .test (decide (o = 0 ∧ n ≤ (List.length r0))) (.ret ((), (List.take n r0))) .fail
theorem del_all {s : List Dg} (keep : Dg → Bool) (hl : s.length < 4611686018427387904) {idx : Option Int} {lp : Int → Int → Option ((Unit × Int) × List Dg)} (hi : idx = some (idxI (fun d => !keep d) s))
    (hlp : ∀ i : Nat, i < s.length → s.take i = (s.take (i + 1)).filter keep → ∃ (i' : Nat) (s' : List Dg), s'.length = s.length ∧ i' < s.length ∧ s'.take i' = s.filter keep ∧ lp (i : Int) ((i + 1 : Nat) : Int) = some (((), (i' : Int)), s')) :
    (delT idx lp s).run.bind (fun o => (delM o).run) = some ((), s.filter keep) := by
  subst hi
  unfold delT
  rw [T.run_test, if_pos (by simp), T.run_sub, Option.bind_some, T.run_test]
  unfold idxI
  cases hf : s.findIdx? (fun q => !keep q) with
  | none =>
    have hall : s.filter keep = s := by
      rw [List.filter_eq_self]
      intro x hx
      have := List.findIdx?_eq_none_iff.1 hf x hx
      simpa using this
    dsimp only
    rw [if_pos (show ((-1 : Int) == -1) = true from rfl), T.run_ret, hall, Option.bind_some, delM, T.run_test, if_pos (by simp), T.run_ret, List.take_length]
  | some i =>
    obtain ⟨h1, h2, h3⟩ := List.findIdx?_eq_some_iff_getElem.1 hf
    have ht : s.take i = (s.take (i + 1)).filter keep := by
      rw [List.take_succ_eq_append_getElem h1, List.filter_append]
      have : [s[i]].filter keep = [] := by simp at h2; simp [h2]
      rw [this, List.append_nil]
      symm
      rw [List.filter_eq_self]
      intro x hx
      obtain ⟨j, hj, e⟩ := List.mem_take_iff_getElem.1 hx
      have := h3 j (by omega)
      rw [e] at this
      simpa using this
    obtain ⟨i', s', r1, r2, r3, r4⟩ := hlp i h1 ht
    have w1 : w64 ((i : Int) + 1) = ((i + 1 : Nat) : Int) := by rw [w64_id (by omega) (by omega)]; omega
    have hsp : (spliceT s' i' (List.replicate (s'.length - i') ((0 : Int), (0 : Int)))).take i' = s.filter keep := by
      unfold spliceT
      rw [List.take_append_of_le_length (by rw [List.length_take]; omega), List.take_take, Nat.min_self, r3]
    have hspl : i' ≤ (spliceT s' i' (List.replicate (s'.length - i') ((0 : Int), (0 : Int)))).length := by
      unfold spliceT
      simp only [List.length_append, List.length_take, List.length_replicate, List.length_drop]
      omega
    dsimp only
    rw [if_neg (by rw [beq_iff_eq]; omega), T.run_test, if_pos (by simp), T.run_sub, w1, r4, Option.bind_some]
    dsimp only
    rw [T.run_test, if_pos (decide_eq_true (by omega)), T.run_test]
    simp only [Int.toNat_natCast, Nat.zero_add, Nat.sub_zero]
    rw [if_pos (decide_eq_true (by omega)), T.run_test, if_pos (decide_eq_true (by omega)), T.run_test, if_pos (decide_eq_true (by omega)), T.run_test, if_pos (decide_eq_true (by omega)), T.run_ret, Option.bind_some, delM, T.run_test, if_pos (decide_eq_true ⟨rfl, hspl⟩), T.run_ret, hsp]


end Go.Proofs.W
