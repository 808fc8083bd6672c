/- Functions of the program, walked, and what they compute. -/
import Derived.Test.YtaoeghfoifhhcaaGreatDxWk5
set_option linter.unusedVariables false
set_option linter.unusedSimpArgs false
set_option maxRecDepth 100000
set_option maxHeartbeats 4000000
namespace Go.Proofs.W
open Go Go.Gm Go.Proofs
open Go.RowKit Go.Shelf
def F19_sh : FSh := ⟨[(.one (.sl (.list true (.int .i64)) false false))], []⟩

def F19_fo : List FO := [⟨[(.one (.rw 0 0)), (.one .sb)], [(.row 0 (.int .i64))]⟩]
noncomputable def F19_t : List (List (Int)) → T ((Unit × Bool) × List (Int)) := fun rows =>
 (.sub (F53 rows) fun z0 =>
 (.test (decide ((0 = 0) ∧ ((List.length z0.2) = (List.length z0.2))))
 (.ret (((), z0.1.2), z0.2))
 .fail))
noncomputable def F19 (v : List (List (Int))) : Option ((Unit × Bool) × List (Int)) := (F19_t v).run
noncomputable def F19_E : TEnv := (E0.add1 n_F53 F53_sh F53_fo F53)
theorem F19_Eok : (F19_E).OK := (E0ok.add1 F53_ok)
noncomputable def F19_told : Nat → Option SealT := fun id => none
theorem F19_ok : FOK Tryz.prog n_F19 F19_sh F19_fo F19 :=
  fn_ok (E := F19_E) (F19_Eok) (told := F19_told) (fl := []) (c := bodyOf fn_F19) (s := F19_sh) (l := F19_fo) (tree := F19_t) fnat_F19 (by kernel_rfl) (by kernel_rfl) (by kernel_rfl) (loopsOK_of (ls := []) (by kernel_rfl) trivial) (fun v => by kernel_rfl)

theorem F19_eq {q : List Int} (hr : rowed q = true) : F19 (frF q) = some (((), true), q) := by
  rw [F19, F19_t, T.run_sub, F53_eq hr, Option.bind_some, T.run_test, if_pos (by simp), T.run_ret]


def F20_sh : FSh := ⟨[(.one (.rw 0 0))], [(.row 0 (.int .i64))]⟩

def F20_L1_sh : LSh := ⟨(fun ex => match ex with | .norm => [(0, none), (2, none), (3, none)] | .exit i => if i = 0 then [] else [] | .ret => []), [(0, (.one (.rw 0 0))), (2, (.one (.si .i64))), (3, (.one (.si .i64)))], [(.row 0 (.int .i64))], [⟨(.exit 0), [], [(.row 0 (.int .i64))]⟩], [], []⟩
noncomputable def F20_L1_step : ((Unit × Int × Int) × List (Int)) → T (((Unit × Int × Int) × List (Int)) ⊕ (Unit × List (Int))) := fun (((), i, j), s) =>
 (.test (decide (i < j))
 (.test (decide ((0 ≤ j) ∧ (j < ((List.length s) : Int))))
 (.sub (s[(0 + (Int.toNat j))]?) fun z0 =>
 (.test (decide ((0 ≤ i) ∧ (i < ((List.length s) : Int))))
 (.sub (s[(0 + (Int.toNat i))]?) fun z1 =>
 (.test (decide ((0 ≤ i) ∧ (i < ((List.length s) : Int))))
 (.sub (s[(0 + (Int.toNat i))]?) fun z2 =>
 (.test (decide ((0 ≤ j) ∧ (j < ((List.length s) : Int))))
 (.sub ((List.set s (0 + (Int.toNat i)) z0)[(0 + (Int.toNat j))]?) fun z3 =>
 (.test (decide ((0 = 0) ∧ ((List.length s) = (List.length (List.set (List.set s (0 + (Int.toNat i)) z0) (0 + (Int.toNat j)) z1)))))
 (.ret (Sum.inl (((), ((w64 (i + 1)), (w64 (j - 1)))), (List.set (List.set s (0 + (Int.toNat i)) z0) (0 + (Int.toNat j)) z1))))
 .fail))
 .fail))
 .fail))
 .fail))
 .fail)
 (.ret (Sum.inr ((), s))))
noncomputable def F20_L1 (v : ((Unit × Int × Int) × List (Int))) : Option (Unit × List (Int)) := loopO (fun v => (F20_L1_step v).run) v

def F20_fo : List FO := [⟨[], [(.row 0 (.int .i64))]⟩]
noncomputable def F20_t : (Unit × List (Int)) → T (Unit × List (Int)) := fun ((), s) =>
 (.test (decide ((0 = 0) ∧ ((List.length s) = (List.length s))))
 (.sub (F20_L1 (((), ((0 : Int), (w64 (((List.length s) : Int) - 1)))), s)) fun z0 =>
 (.ret ((), z0.2)))
 .fail)
noncomputable def F20 (v : (Unit × List (Int))) : Option (Unit × List (Int)) := (F20_t v).run
noncomputable def F20_E : TEnv := E0
theorem F20_Eok : (F20_E).OK := E0ok
noncomputable def F20_told : Nat → Option SealT := fun id => if id = 1 then some (LSh.told F20_L1_sh 1 (F20_L1_step)) else none
theorem F20_L1_ok : ToldOK Tryz.prog 1 (loopAt (bodyOf fn_F20) [0]) (LSh.told F20_L1_sh 1 (F20_L1_step)) :=
  loop_ok (E := F20_E) (F20_Eok) (told := F20_told) (l := F20_L1_sh) (step := F20_L1_step) (loopsOK_of (ls := []) (by kernel_rfl) trivial) (by kernel_rfl) (fun v => by kernel_rfl)
theorem F20_ok : FOK Tryz.prog n_F20 F20_sh F20_fo F20 :=
  fn_ok (E := F20_E) (F20_Eok) (told := F20_told) (fl := []) (c := bodyOf fn_F20) (s := F20_sh) (l := F20_fo) (tree := F20_t) fnat_F20 (by kernel_rfl) (by kernel_rfl) (by kernel_rfl) (loopsOK_of (ls := [loopAt (bodyOf fn_F20) [0]]) (by kernel_rfl) ⟨.inr ⟨_, by kernel_rfl, F20_L1_ok⟩, trivial⟩) (fun v => by kernel_rfl)

theorem F20_eq (s : List Int) (hl : s.length < 1000000) : F20 ((), s) = some ((), s.reverse) := by
  have key : ∀ m k : Nat, ∀ r : List Int, k + m = s.length → r.length = s.length → (∀ p, p < s.length → r[p]? = if p < k ∨ s.length ≤ p + k then s[s.length - 1 - p]? else s[p]?) → F20_L1 (((), ((k : Int), (s.length : Int) - 1 - k)), r) = some ((), s.reverse) := by
    intro m
    induction m with
    | zero =>
      intro k r hk hr hp
      simp only [F20_L1]
      have : r = s.reverse := by
        apply List.ext_getElem?
        intro p
        by_cases hpl : p < s.length
        · rw [hp p hpl, if_pos (by omega), List.getElem?_reverse hpl]
        · rw [List.getElem?_eq_none (by omega), List.getElem?_eq_none (by simp; omega)]
      refine loopO_done ?_
      rw [F20_L1_step, T.run_test, if_neg (by rw [decide_eq_true_eq]; omega), T.run_ret, this]
    | succ m ih =>
      intro k r hk hr hp
      by_cases hc : k < s.length - 1 - k
      · have w1 : w64 ((k : Int) + 1) = ((k + 1 : Nat) : Int) := by rw [w64_id (by omega) (by omega)]; omega
        have w2 : w64 ((s.length : Int) - 1 - k - 1) = (s.length : Int) - 1 - ((k + 1 : Nat) : Int) := by rw [w64_id (by omega) (by omega)]; omega
        have hj : ((s.length : Int) - 1 - k).toNat = s.length - 1 - k := by omega
        have g1 : r[s.length - 1 - k]? = s[s.length - 1 - k]? := by rw [hp _ (by omega), if_neg (by omega)]
        have g2 : r[k]? = s[k]? := by rw [hp _ (by omega), if_neg (by omega)]
        rw [List.getElem?_eq_getElem (show s.length - 1 - k < s.length by omega)] at g1
        rw [List.getElem?_eq_getElem (show k < s.length by omega)] at g2
        have g3 : (r.set k s[s.length - 1 - k])[s.length - 1 - k]? = some s[s.length - 1 - k] := by rw [List.getElem?_set_ne (by omega)]; exact g1
        rw [← ih (k + 1) ((r.set k s[s.length - 1 - k]).set (s.length - 1 - k) s[k]) (by omega) (by simp [hr]) (fun p hpl => by
          by_cases e1 : p = s.length - 1 - k
          · subst e1
            rw [List.getElem?_set_self (by simp; omega), if_pos (by omega), show s.length - 1 - (s.length - 1 - k) = k by omega, List.getElem?_eq_getElem (by omega)]
          · rw [List.getElem?_set_ne (by omega)]
            by_cases e2 : p = k
            · subst e2
              rw [List.getElem?_set_self (by omega), if_pos (by omega), List.getElem?_eq_getElem (by omega)]
            · rw [List.getElem?_set_ne (by omega), hp p hpl]
              by_cases e3 : p < k ∨ s.length ≤ p + k
              · rw [if_pos e3, if_pos (by omega)]
              · rw [if_neg e3, if_neg (by omega)])]
        simp only [F20_L1]
        refine loopO_next ?_
        rw [F20_L1_step, T.run_test, if_pos (decide_eq_true (by omega)), T.run_test, if_pos (decide_eq_true (by omega)), T.run_sub, Nat.zero_add, hj, g1, Option.bind_some, T.run_test, if_pos (decide_eq_true (by omega)), T.run_sub, Nat.zero_add, Int.toNat_natCast, g2, Option.bind_some,
          T.run_test, if_pos (decide_eq_true (by omega)), T.run_sub, Option.bind_some, T.run_test, if_pos (decide_eq_true (by omega)), T.run_sub, g3, Option.bind_some, T.run_test, if_pos (by simp), T.run_ret, w1, w2]
      · have : r = s.reverse := by
          apply List.ext_getElem?
          intro p
          by_cases hpl : p < s.length
          · rw [hp p hpl, List.getElem?_reverse hpl]
            by_cases e3 : p < k ∨ s.length ≤ p + k
            · rw [if_pos e3]
            · rw [if_neg e3, show s.length - 1 - p = p by omega]
          · rw [List.getElem?_eq_none (by omega), List.getElem?_eq_none (by simp; omega)]
        simp only [F20_L1]
        refine loopO_done ?_
        rw [F20_L1_step, T.run_test, if_neg (by rw [decide_eq_true_eq]; omega), T.run_ret, this]
  have w0 : w64 ((s.length : Int) - 1) = (s.length : Int) - 1 - ((0 : Nat) : Int) := by rw [w64_id (by omega) (by omega)]; omega
  have h := key s.length 0 s (by omega) rfl (fun p hp => by rw [if_neg (by omega)])
  rw [F20, F20_t, T.run_test, if_pos (by simp), T.run_sub, w0]
  have h' : F20_L1 (((), ((0 : Int), (s.length : Int) - 1 - ((0 : Nat) : Int))), s) = _ := h
  rw [h', Option.bind_some, T.run_ret]


def F39_sh : FSh := ⟨[(.one (.sl (.list true (.int .i64)) false false))], []⟩

def F39_fo : List FO := [⟨[(.one (.rw 0 0)), (.one .sb)], [(.row 0 (.list true (.int .i64)))]⟩]
noncomputable def F39_t : List (List (Int)) → T ((Unit × Bool) × List (List (Int))) := fun rows =>
 (.sub (F53 rows) fun z0 =>
 (.test (! z0.1.2)
 (.test true
 (.ret (((), false), ([] : List (List Int))))
 .fail)
 (.test (decide ((0 = 0) ∧ ((List.length z0.2) = (List.length z0.2))))
 (.sub (F20 ((), z0.2)) fun z1 =>
 (.test (decide ((0 + (List.length z0.2)) ≤ (List.length z1.2)))
 (.sub (F77 (win z1.2 0 (List.length z0.2))) fun z2 =>
 (.test (decide ((0 = 0) ∧ ((List.length z2.2) = (List.length z2.2))))
 (.ret (((), true), z2.2))
 .fail))
 .fail))
 .fail)))
noncomputable def F39 (v : List (List (Int))) : Option ((Unit × Bool) × List (List (Int))) := (F39_t v).run
noncomputable def F39_E : TEnv := (((E0.add1 n_F53 F53_sh F53_fo F53).add1 n_F20 F20_sh F20_fo F20).add1 n_F77 F77_sh F77_fo F77)
theorem F39_Eok : (F39_E).OK := (((E0ok.add1 F53_ok).add1 F20_ok).add1 F77_ok)
noncomputable def F39_told : Nat → Option SealT := fun id => none
theorem F39_ok : FOK Tryz.prog n_F39 F39_sh F39_fo F39 :=
  fn_ok (E := F39_E) (F39_Eok) (told := F39_told) (fl := []) (c := bodyOf fn_F39) (s := F39_sh) (l := F39_fo) (tree := F39_t) fnat_F39 (by kernel_rfl) (by kernel_rfl) (by kernel_rfl) (loopsOK_of (ls := []) (by kernel_rfl) trivial) (fun v => by kernel_rfl)

theorem rowed_rev {q : List Int} (hr : rowed q = true) : rowed q.reverse = true := by
  unfold rowed at hr ⊢
  rw [Bool.and_eq_true] at hr ⊢
  exact ⟨by rw [List.length_reverse]; exact hr.1, quid_rev hr.2⟩
theorem F39_eq {q : List Int} (hr : rowed q = true) : F39 (frF q) = some (((), true), frF q.reverse) := by
  obtain ⟨h4, ds, h⟩ := rowed_some hr
  obtain ⟨_, es, he⟩ := rowed_some (rowed_rev hr)
  have hb := (trOf_bounds (l := q) (by rw [h]; rfl)).1
  have hw : win q.reverse 0 q.length = q.reverse := by have := win_all q.reverse; rwa [List.length_reverse] at this
  rw [F39, F39_t, T.run_sub, F53_eq hr, Option.bind_some, T.run_test, if_neg (by simp), T.run_test, if_pos (by simp), T.run_sub, F20_eq q (by omega), Option.bind_some, T.run_test, if_pos (by simp), T.run_sub]
  show (((F77 (win q.reverse 0 q.length)).bind _)) = _
  rw [hw, F77_eq he, Option.bind_some, T.run_test, if_pos (by simp), T.run_ret]


def F62_sh : FSh := ⟨[(.one (.sl (.list true (.int .i64)) false false))], []⟩

def F62_fo : List FO := [⟨[(.one .sb)], []⟩]
noncomputable def F62_t : List (List (Int)) → T Bool := fun rows =>
 (.sub (F53 rows) fun z0 =>
 (.ret z0.1.2))
noncomputable def F62 (v : List (List (Int))) : Option Bool := (F62_t v).run
noncomputable def F62_E : TEnv := (E0.add1 n_F53 F53_sh F53_fo F53)
theorem F62_Eok : (F62_E).OK := (E0ok.add1 F53_ok)
noncomputable def F62_told : Nat → Option SealT := fun id => none
theorem F62_ok : FOK Tryz.prog n_F62 F62_sh F62_fo F62 :=
  fn_ok (E := F62_E) (F62_Eok) (told := F62_told) (fl := []) (c := bodyOf fn_F62) (s := F62_sh) (l := F62_fo) (tree := F62_t) fnat_F62 (by kernel_rfl) (by kernel_rfl) (by kernel_rfl) (loopsOK_of (ls := []) (by kernel_rfl) trivial) (fun v => by kernel_rfl)

theorem F62_eq {q : List Int} (hr : rowed q = true) : F62 (frF q) = some true := by
  rw [F62, F62_t, T.run_sub, F53_eq hr, Option.bind_some, T.run_ret]


def F46_sh : FSh := ⟨[(.one (.sl (.int .i64) false false)), (.one (.si .i64))], []⟩

def F46_fo : List FO := [⟨[(.one (.rw 0 0)), (.one .sb)], [(.row 0 (.int .i64))]⟩]
noncomputable def F46_t : (List (Int) × Int) → T ((Unit × Bool) × List (Int)) := fun (quiddity, k) =>
 (.sub (F51 quiddity) fun z0 =>
 (.test (! z0)
 (.test true
 (.ret (((), false), ([] : List (Int))))
 .fail)
 (.sub (F75 (k, ((1 : Int), (w64 (((List.length quiddity) : Int) - 3))))) fun z1 =>
 (.test (! z1)
 (.test true
 (.ret (((), false), ([] : List (Int))))
 .fail)
 (.sub (F110 (quiddity, k)) fun z2 =>
 (.test (decide ((0 = 0) ∧ ((List.length z2.2) = (List.length z2.2))))
 (.ret (((), true), z2.2))
 .fail))))))
noncomputable def F46 (v : (List (Int) × Int)) : Option ((Unit × Bool) × List (Int)) := (F46_t v).run
noncomputable def F46_E : TEnv := (((E0.add1 n_F51 F51_sh F51_fo F51).add1 n_F75 F75_sh F75_fo F75).add1 n_F110 F110_sh F110_fo F110)
theorem F46_Eok : (F46_E).OK := (((E0ok.add1 F51_ok).add1 F75_ok).add1 F110_ok)
noncomputable def F46_told : Nat → Option SealT := fun id => none
theorem F46_ok : FOK Tryz.prog n_F46 F46_sh F46_fo F46 :=
  fn_ok (E := F46_E) (F46_Eok) (told := F46_told) (fl := []) (c := bodyOf fn_F46) (s := F46_sh) (l := F46_fo) (tree := F46_t) fnat_F46 (by kernel_rfl) (by kernel_rfl) (by kernel_rfl) (loopsOK_of (ls := []) (by kernel_rfl) trivial) (fun v => by kernel_rfl)

theorem F46_eq {q : List Int} {ds : List Dg} (h : trOf q = some ds) (k : Nat) (h1 : 1 ≤ k) (hk : k + 3 ≤ q.length) : F46 (q, (k : Int)) = some (((), true), rowF q k) := by
  have hb := (trOf_bounds (l := q) (by rw [h]; rfl)).1
  have w : w64 ((q.length : Int) - 3) = (q.length : Int) - 3 := w64_id (by omega) (by omega)
  rw [F46, F46_t, T.run_sub, F51_eq q (by omega), h, Option.bind_some, T.run_test, if_neg (by simp), T.run_sub, F75_eq, w, Option.bind_some, T.run_test, if_neg (by simp [inB]; omega), T.run_sub, F110_eq h k (by omega), Option.bind_some, T.run_test, if_pos (by simp), T.run_ret]


def F68_sh : FSh := ⟨[(.one (.si .i64))], []⟩

def F68_fo : List FO := [⟨[(.one .sb)], []⟩]
noncomputable def F68_t : Int → T Bool := fun i =>
 (.sub (F75 (i, ((-1000), (1000 : Int)))) fun z0 =>
 (.ret z0))
noncomputable def F68 (v : Int) : Option Bool := (F68_t v).run
noncomputable def F68_E : TEnv := (E0.add1 n_F75 F75_sh F75_fo F75)
theorem F68_Eok : (F68_E).OK := (E0ok.add1 F75_ok)
noncomputable def F68_told : Nat → Option SealT := fun id => none
theorem F68_ok : FOK Tryz.prog n_F68 F68_sh F68_fo F68 :=
  fn_ok (E := F68_E) (F68_Eok) (told := F68_told) (fl := []) (c := bodyOf fn_F68) (s := F68_sh) (l := F68_fo) (tree := F68_t) fnat_F68 (by kernel_rfl) (by kernel_rfl) (by kernel_rfl) (loopsOK_of (ls := []) (by kernel_rfl) trivial) (fun v => by kernel_rfl)

def F69_sh : FSh := ⟨[(.one (.sl (.int .i64) false false)), (.one (.si .i64)), (.one (.si .i64))], []⟩

def F69_fo : List FO := [⟨[(.one .sb)], []⟩]
noncomputable def F69_t : (List (Int) × Int × Int) → T Bool := fun (quiddity, i, j) =>
 (.sub (F51 quiddity) fun z0 =>
 (.test z0
 (.sub (F68 i) fun z1 =>
 (.test z1
 (.sub (F75 (j, (i, (w64 (i + ((List.length quiddity) : Int)))))) fun z2 =>
 (.ret z2))
 (.ret false)))
 (.ret false)))
noncomputable def F69 (v : (List (Int) × Int × Int)) : Option Bool := (F69_t v).run
noncomputable def F69_E : TEnv := (((E0.add1 n_F51 F51_sh F51_fo F51).add1 n_F68 F68_sh F68_fo F68).add1 n_F75 F75_sh F75_fo F75)
theorem F69_Eok : (F69_E).OK := (((E0ok.add1 F51_ok).add1 F68_ok).add1 F75_ok)
noncomputable def F69_told : Nat → Option SealT := fun id => none
theorem F69_ok : FOK Tryz.prog n_F69 F69_sh F69_fo F69 :=
  fn_ok (E := F69_E) (F69_Eok) (told := F69_told) (fl := []) (c := bodyOf fn_F69) (s := F69_sh) (l := F69_fo) (tree := F69_t) fnat_F69 (by kernel_rfl) (by kernel_rfl) (by kernel_rfl) (loopsOK_of (ls := []) (by kernel_rfl) trivial) (fun v => by kernel_rfl)

theorem F69_eq (q : List Int) (hl : q.length < 4611686018427387904) (i j : Int) : F69 (q, (i, j)) = some ((trOf q).isSome && (inB (-1000) 1000 i && inB i (i + q.length) j)) := by
  rw [F69, F69_t, T.run_sub, F51_eq q hl, Option.bind_some, T.run_test]
  cases h : (trOf q).isSome with
  | false => rfl
  | true =>
    have hb := (trOf_bounds h).1
    have e : F68 i = some (inB (-1000) 1000 i) := by rw [F68, F68_t, T.run_sub, F75_eq, Option.bind_some, T.run_ret]
    rw [if_pos rfl, T.run_sub, e, Option.bind_some, T.run_test]
    cases h2 : inB (-1000) 1000 i with
    | false => rfl
    | true =>
      rw [inB_iff] at h2
      rw [if_pos rfl, T.run_sub, F75_eq, w64_id (by omega) (by omega), Option.bind_some, T.run_ret]
      rfl


def F70_sh : FSh := ⟨[(.one (.sl (.int .i64) false false)), (.one (.si .i64)), (.one (.si .i64))], []⟩

def F70_fo : List FO := [⟨[(.one (.si .i64)), (.one .sb)], []⟩]
noncomputable def F70_t : (List (Int) × Int × Int) → T (Int × Bool) := fun (quiddity, i, j) =>
 (.sub (F69 (quiddity, (i, j))) fun z0 =>
 (.test (! z0)
 (.ret ((0 : Int), false))
 (.sub (F65 (quiddity, i)) fun z1 =>
 (.test (decide ((0 ≤ (w64 (j - i))) ∧ ((w64 (j - i)) < ((List.length z1.2) : Int))))
 (.sub (z1.2[(0 + (Int.toNat (w64 (j - i))))]?) fun z2 =>
 (.ret (z2, true)))
 .fail))))
noncomputable def F70 (v : (List (Int) × Int × Int)) : Option (Int × Bool) := (F70_t v).run
noncomputable def F70_E : TEnv := ((E0.add1 n_F69 F69_sh F69_fo F69).add1 n_F65 F65_sh F65_fo F65)
theorem F70_Eok : (F70_E).OK := ((E0ok.add1 F69_ok).add1 F65_ok)
noncomputable def F70_told : Nat → Option SealT := fun id => none
theorem F70_ok : FOK Tryz.prog n_F70 F70_sh F70_fo F70 :=
  fn_ok (E := F70_E) (F70_Eok) (told := F70_told) (fl := []) (c := bodyOf fn_F70) (s := F70_sh) (l := F70_fo) (tree := F70_t) fnat_F70 (by kernel_rfl) (by kernel_rfl) (by kernel_rfl) (loopsOK_of (ls := []) (by kernel_rfl) trivial) (fun v => by kernel_rfl)

def entR (q : List Int) (i j : Int) : Int × Bool := if (trOf q).isSome && (inB (-1000) 1000 i && inB i (i + q.length) j) then (en (qa q) i (j - i).toNat, true) else (0, false)
theorem F70_eq (q : List Int) (hl : q.length < 4611686018427387904) (i j : Int) : F70 (q, (i, j)) = some (entR q i j) := by
  rw [F70, F70_t, T.run_sub, F69_eq q hl, Option.bind_some, T.run_test]
  unfold entR
  cases hc : ((trOf q).isSome && (inB (-1000) 1000 i && inB i (i + q.length) j)) with
  | false => rfl
  | true =>
    rw [Bool.and_eq_true, Bool.and_eq_true, inB_iff, inB_iff] at hc
    obtain ⟨ds, h⟩ := Option.isSome_iff_exists.1 hc.1
    have hb := (trOf_bounds hc.1).1
    have w : w64 (j - i) = j - i := w64_id (by omega) (by omega)
    have e := ensL_get (q := q) (i := i) (k := q.length + 1) (t := (j - i).toNat) (by omega)
    rw [if_neg (by simp), if_pos rfl, T.run_sub, F65_eq h i (by omega), Option.bind_some, w, T.run_test, if_pos (decide_eq_true (by rw [ensL_length]; omega)), T.run_sub, Nat.zero_add, e, Option.bind_some, T.run_ret]


def F47_sh : FSh := ⟨[(.one (.sl (.int .u8) false true))], []⟩

def F47_fo : List FO := [⟨[(.one (.sl (.int .i64) false true)), (.one (.si .i64)), (.one (.si .i64))], []⟩]
noncomputable def F47_t : List (Int) → T (List (Int) × Int × Int) := fun code =>
 (.sub (F27 (((), (10 : Int)), (code, ((0 : Int), (0 : Int))))) fun z0 =>
 (.sub (F49 (((), (25 : Int)), z0.2)) fun z1 =>
 (.sub (F54 (((), (14 : Int)), z1.2)) fun z2 =>
 (.test z2.1
 (.test true
 (.sub (F42 (((), [(-1001), (-1000), (1000 : Int), (1001 : Int)]), z2.2)) fun z3 =>
 (.test true
 (.sub (F42 (((), [(-1000), (-998), (1002 : Int), (1001 : Int)]), z3.2)) fun z4 =>
 (.ret (z0.1, (z3.1, z4.1))))
 .fail))
 .fail)
 (.sub (F49 (((), (11 : Int)), z2.2)) fun z5 =>
 (.sub (F49 (((), (9 : Int)), z5.2)) fun z6 =>
 (.test true
 (.ret (z0.1, ((w64 (z1.1 - 12)), (w64 ((w64 ((w64 (z1.1 - 12)) + z5.1)) - (w64 (Int.tdiv z6.1 (8 : Int))))))))
 .fail)))))))
noncomputable def F47 (v : List (Int)) : Option (List (Int) × Int × Int) := (F47_t v).run
noncomputable def F47_E : TEnv := ((((E0.add1 n_F27 F27_sh F27_fo F27).add1 n_F49 F49_sh F49_fo F49).add1 n_F54 F54_sh F54_fo F54).add1 n_F42 F42_sh F42_fo F42)
theorem F47_Eok : (F47_E).OK := ((((E0ok.add1 F27_ok).add1 F49_ok).add1 F54_ok).add1 F42_ok)
noncomputable def F47_told : Nat → Option SealT := fun id => none
theorem F47_ok : FOK Tryz.prog n_F47 F47_sh F47_fo F47 :=
  fn_ok (E := F47_E) (F47_Eok) (told := F47_told) (fl := []) (c := bodyOf fn_F47) (s := F47_sh) (l := F47_fo) (tree := F47_t) fnat_F47 (by kernel_rfl) (by kernel_rfl) (by kernel_rfl) (loopsOK_of (ls := []) (by kernel_rfl) trivial) (fun v => by kernel_rfl)

theorem F47_some {code : List Int} (h : bytesOK code) : ∃ l i j, F47 code = some (l, (i, j)) ∧ l.length ≤ 20 := by
  obtain ⟨l, c1, e1, hl, h1⟩ := quiddity_okN 10 (by omega) (cur0 h) (by omega)
  obtain ⟨v2, c2, e2, _, _, _, h2⟩ := pick_ok 25 h1 (by omega)
  obtain ⟨v3, c3, e3, h3⟩ := one_ok 14 h2 (by omega)
  rw [F47, F47_t, T.run_sub, e1, Option.bind_some, T.run_sub, e2, Option.bind_some, T.run_sub, e3, Option.bind_some, T.run_test]
  cases v3 with
  | true =>
    obtain ⟨v4, c4, e4, _, h4⟩ := among_ok [-1001, -1000, 1000, 1001] h3 (by omega) (by simp)
    obtain ⟨v5, c5, e5, _, h5⟩ := among_ok [-1000, -998, 1002, 1001] h4 (by omega) (by simp)
    rw [if_pos rfl, T.run_test, if_pos rfl, T.run_sub, e4, Option.bind_some, T.run_test, if_pos rfl, T.run_sub, e5, Option.bind_some, T.run_ret]
    exact ⟨_, _, _, rfl, hl⟩
  | false =>
    obtain ⟨v4, c4, e4, _, _, _, h4⟩ := pick_ok 11 h3 (by omega)
    obtain ⟨v5, c5, e5, _, _, _, h5⟩ := pick_ok 9 h4 (by omega)
    rw [if_neg (by simp), T.run_sub, e4, Option.bind_some, T.run_sub, e5, Option.bind_some, T.run_test, if_pos rfl, T.run_ret]
    exact ⟨_, _, _, rfl, hl⟩


def F71_sh : FSh := ⟨[(.one (.si .i64))], []⟩

def F71_fo : List FO := [⟨[(.one .sb)], []⟩]
noncomputable def F71_t : Int → T Bool := fun i =>
 (.sub (F100 (i, ((-1000), (1000 : Int)))) fun z0 =>
 (.ret z0))
noncomputable def F71 (v : Int) : Option Bool := (F71_t v).run
noncomputable def F71_E : TEnv := (E0.add1 n_F100 F100_sh F100_fo F100)
theorem F71_Eok : (F71_E).OK := (E0ok.add1 F100_ok)
noncomputable def F71_told : Nat → Option SealT := fun id => none
theorem F71_ok : FOK Tryz.prog n_F71 F71_sh F71_fo F71 :=
  fn_ok (E := F71_E) (F71_Eok) (told := F71_told) (fl := []) (c := bodyOf fn_F71) (s := F71_sh) (l := F71_fo) (tree := F71_t) fnat_F71 (by kernel_rfl) (by kernel_rfl) (by kernel_rfl) (loopsOK_of (ls := []) (by kernel_rfl) trivial) (fun v => by kernel_rfl)

theorem F71_eq (i : Int) : F71 i = some (inB (-1000) 1000 i) := by rw [F71, F71_t, T.run_sub, F100_eq, Option.bind_some, T.run_ret]


def F72_sh : FSh := ⟨[(.one (.sl (.int .i64) false false)), (.one (.si .i64)), (.one (.si .i64))], []⟩

def F72_fo : List FO := [⟨[(.one (.si .i64)), (.one .sb)], []⟩]
noncomputable def F72_t : (List (Int) × Int × Int) → T (Int × Bool) := fun (quiddity, i, j) =>
 (.sub (F52 quiddity) fun z0 =>
 (.test (! z0)
 (.ret ((0 : Int), false))
 (.sub (F71 i) fun z1 =>
 (.test (! z1)
 (.ret ((0 : Int), false))
 (.sub (F100 (j, (i, (w64 (i + ((List.length quiddity) : Int)))))) fun z2 =>
 (.test (! z2)
 (.ret ((0 : Int), false))
 (.sub (F67 (quiddity, (i, j))) fun z3 =>
 (.ret (z3, true)))))))))
noncomputable def F72 (v : (List (Int) × Int × Int)) : Option (Int × Bool) := (F72_t v).run
noncomputable def F72_E : TEnv := ((((E0.add1 n_F52 F52_sh F52_fo F52).add1 n_F71 F71_sh F71_fo F71).add1 n_F100 F100_sh F100_fo F100).add1 n_F67 F67_sh F67_fo F67)
theorem F72_Eok : (F72_E).OK := ((((E0ok.add1 F52_ok).add1 F71_ok).add1 F100_ok).add1 F67_ok)
noncomputable def F72_told : Nat → Option SealT := fun id => none
theorem F72_ok : FOK Tryz.prog n_F72 F72_sh F72_fo F72 :=
  fn_ok (E := F72_E) (F72_Eok) (told := F72_told) (fl := []) (c := bodyOf fn_F72) (s := F72_sh) (l := F72_fo) (tree := F72_t) fnat_F72 (by kernel_rfl) (by kernel_rfl) (by kernel_rfl) (loopsOK_of (ls := []) (by kernel_rfl) trivial) (fun v => by kernel_rfl)

theorem F72_eq (q : List Int) (hl : q.length < 4611686018427387904) (i j : Int) : F72 (q, (i, j)) = some (entR q i j) := by
  rw [F72, F72_t, T.run_sub, F52_eq q hl, Option.bind_some, T.run_test]
  unfold entR
  cases h : (trOf q).isSome with
  | false => rfl
  | true =>
    have hb := (trOf_bounds h).1
    obtain ⟨ds, hd⟩ := Option.isSome_iff_exists.1 h
    rw [if_neg (by simp), T.run_sub, F71_eq, Option.bind_some, T.run_test]
    cases h2 : inB (-1000) 1000 i with
    | false => rfl
    | true =>
      rw [inB_iff] at h2
      rw [if_neg (by simp), T.run_sub, F100_eq, w64_id (by omega) (by omega), Option.bind_some, T.run_test]
      cases h3 : inB i (i + q.length) j with
      | false => rfl
      | true =>
        rw [inB_iff] at h3
        have he := F67_eq hd i (by omega) (j - i).toNat (by omega)
        rw [show i + ((j - i).toNat : Int) = j by omega] at he
        rw [if_neg (by simp), T.run_sub, he, Option.bind_some, T.run_ret]
        rfl


def F73_sh : FSh := ⟨[(.one (.sl (.int .i64) false false)), (.one (.si .i64)), (.one (.si .i64))], []⟩

def F73_fo : List FO := [⟨[(.one (.si .i64)), (.one (.si .i64)), (.one .sb)], []⟩]
noncomputable def F73_t : (List (Int) × Int × Int) → T (Int × Int × Bool) := fun (quiddity, i, j) =>
 (.sub (F69 (quiddity, (i, j))) fun z0 =>
 (.test (! z0)
 (.ret ((0 : Int), ((0 : Int), false)))
 (.sub (F76 (j, ((List.length quiddity) : Int))) fun z1 =>
 (.ret (z1, ((w64 ((w64 ((w64 (z1 + i)) + ((List.length quiddity) : Int))) - j)), true))))))
noncomputable def F73 (v : (List (Int) × Int × Int)) : Option (Int × Int × Bool) := (F73_t v).run
noncomputable def F73_E : TEnv := ((E0.add1 n_F69 F69_sh F69_fo F69).add1 n_F76 F76_sh F76_fo F76)
theorem F73_Eok : (F73_E).OK := ((E0ok.add1 F69_ok).add1 F76_ok)
noncomputable def F73_told : Nat → Option SealT := fun id => none
theorem F73_ok : FOK Tryz.prog n_F73 F73_sh F73_fo F73 :=
  fn_ok (E := F73_E) (F73_Eok) (told := F73_told) (fl := []) (c := bodyOf fn_F73) (s := F73_sh) (l := F73_fo) (tree := F73_t) fnat_F73 (by kernel_rfl) (by kernel_rfl) (by kernel_rfl) (loopsOK_of (ls := []) (by kernel_rfl) trivial) (fun v => by kernel_rfl)

def glR (q : List Int) (i j : Int) : Int × Int × Bool := if (trOf q).isSome && (inB (-1000) 1000 i && inB i (i + q.length) j) then (j % (q.length : Int), (j % (q.length : Int) + i + q.length - j, true)) else (0, (0, false))
theorem F73_eq (q : List Int) (hl : q.length < 4611686018427387904) (i j : Int) : F73 (q, (i, j)) = some (glR q i j) := by
  rw [F73, F73_t, T.run_sub, F69_eq q hl, Option.bind_some, T.run_test]
  unfold glR
  cases hc : ((trOf q).isSome && (inB (-1000) 1000 i && inB i (i + q.length) j)) with
  | false => rfl
  | true =>
    rw [Bool.and_eq_true, Bool.and_eq_true, inB_iff, inB_iff] at hc
    have hb := (trOf_bounds hc.1).1
    have h1 := Int.emod_nonneg j (show (q.length : Int) ≠ 0 by omega)
    have h2 := Int.emod_lt_of_pos j (show 0 < (q.length : Int) by omega)
    rw [if_neg (by simp), if_pos rfl, T.run_sub, F76_eq j _ (by omega) (by omega), Option.bind_some, T.run_ret, w64_id (z := j % (q.length : Int) + i) (by omega) (by omega), w64_id (z := j % (q.length : Int) + i + q.length) (by omega) (by omega), w64_id (by omega) (by omega)]


def F74_sh : FSh := ⟨[(.one (.sl (.int .i64) false false)), (.one (.si .i64)), (.one (.si .i64))], []⟩

def F74_L5_sh : LSh := ⟨(fun ex => match ex with | .norm => [(9, none), (10, none), (11, none)] | .exit i => if i = 0 then [(9, none), (10, none), (11, none)] else [] | .ret => [(6, none), (7, none), (8, none)]), [(9, (.one (.si .i64))), (10, (.one (.si .i64))), (11, (.one (.si .i64)))], [], [⟨(.exit 0), [(9, (.one (.si .i64))), (10, (.one (.si .i64))), (11, (.one (.si .i64)))], []⟩], [], []⟩
noncomputable def F74_L5_step : (Int × Int × Int) → T ((Int × Int × Int) ⊕ (Int × Int × Int)) := fun (n, a, b) =>
 (.test (decide (a < 0))
 (.ret (Sum.inl (n, ((w64 (a + n)), (w64 (b + n))))))
 (.ret (Sum.inr (n, (a, b)))))
noncomputable def F74_L5 (v : (Int × Int × Int)) : Option (Int × Int × Int) := loopO (fun v => (F74_L5_step v).run) v

def F74_L8_sh : LSh := ⟨(fun ex => match ex with | .norm => [(9, none), (10, none), (11, none)] | .exit i => if i = 2 then [(10, none), (11, none)] else [] | .ret => [(6, none), (7, none), (8, none)]), [(9, (.one (.si .i64))), (10, (.one (.si .i64))), (11, (.one (.si .i64)))], [], [⟨(.exit 2), [(10, (.one (.si .i64))), (11, (.one (.si .i64)))], []⟩], [], []⟩
noncomputable def F74_L8_step : (Int × Int × Int) → T ((Int × Int × Int) ⊕ (Int × Int)) := fun (n, a, b) =>
 (.test (decide (a ≥ n))
 (.ret (Sum.inl (n, ((w64 (a - n)), (w64 (b - n))))))
 (.ret (Sum.inr (a, b))))
noncomputable def F74_L8 (v : (Int × Int × Int)) : Option (Int × Int) := loopO (fun v => (F74_L8_step v).run) v

def F74_fo : List FO := [⟨[(.one (.si .i64)), (.one (.si .i64)), (.one .sb)], []⟩]
noncomputable def F74_t : (List (Int) × Int × Int) → T (Int × Int × Bool) := fun (quiddity, i, j) =>
 (.sub (F52 quiddity) fun z0 =>
 (.test (! z0)
 (.ret ((0 : Int), ((0 : Int), false)))
 (.sub (F71 i) fun z1 =>
 (.test (! z1)
 (.ret ((0 : Int), ((0 : Int), false)))
 (.sub (F100 (j, (i, (w64 (i + ((List.length quiddity) : Int)))))) fun z2 =>
 (.test (! z2)
 (.ret ((0 : Int), ((0 : Int), false)))
 (.sub (F74_L5 (((List.length quiddity) : Int), (j, (w64 (i + ((List.length quiddity) : Int)))))) fun z3 =>
 (.sub (F74_L8 z3) fun z4 =>
 (.ret (z4.1, (z4.2, true)))))))))))
noncomputable def F74 (v : (List (Int) × Int × Int)) : Option (Int × Int × Bool) := (F74_t v).run
noncomputable def F74_E : TEnv := (((E0.add1 n_F52 F52_sh F52_fo F52).add1 n_F71 F71_sh F71_fo F71).add1 n_F100 F100_sh F100_fo F100)
theorem F74_Eok : (F74_E).OK := (((E0ok.add1 F52_ok).add1 F71_ok).add1 F100_ok)
noncomputable def F74_told : Nat → Option SealT := fun id => if id = 5 then some (LSh.told F74_L5_sh 0 (F74_L5_step)) else if id = 8 then some (LSh.told F74_L8_sh 0 (F74_L8_step)) else none
theorem F74_L5_ok : ToldOK Tryz.prog 0 (loopAt (bodyOf fn_F74) [0]) (LSh.told F74_L5_sh 0 (F74_L5_step)) :=
  loop_ok (E := F74_E) (F74_Eok) (told := F74_told) (l := F74_L5_sh) (step := F74_L5_step) (loopsOK_of (ls := []) (by kernel_rfl) trivial) (by kernel_rfl) (fun v => by kernel_rfl)
theorem F74_L8_ok : ToldOK Tryz.prog 0 (loopAt (bodyOf fn_F74) [1]) (LSh.told F74_L8_sh 0 (F74_L8_step)) :=
  loop_ok (E := F74_E) (F74_Eok) (told := F74_told) (l := F74_L8_sh) (step := F74_L8_step) (loopsOK_of (ls := []) (by kernel_rfl) trivial) (by kernel_rfl) (fun v => by kernel_rfl)
theorem F74_ok : FOK Tryz.prog n_F74 F74_sh F74_fo F74 :=
  fn_ok (E := F74_E) (F74_Eok) (told := F74_told) (fl := []) (c := bodyOf fn_F74) (s := F74_sh) (l := F74_fo) (tree := F74_t) fnat_F74 (by kernel_rfl) (by kernel_rfl) (by kernel_rfl) (loopsOK_of (ls := [loopAt (bodyOf fn_F74) [0], loopAt (bodyOf fn_F74) [1]]) (by kernel_rfl) ⟨.inr ⟨_, by kernel_rfl, F74_L5_ok⟩, ⟨.inr ⟨_, by kernel_rfl, F74_L8_ok⟩, trivial⟩⟩) (fun v => by kernel_rfl)

theorem F74_up (n : Int) (hn : 1 ≤ n ∧ n ≤ 100) : ∀ (m : Nat) (a b : Int), -a ≤ m → a < n → -100000 ≤ a ∧ a ≤ 100000 → -100000 ≤ b - a ∧ b - a ≤ 100000 → ∃ a', a' % n = a % n ∧ 0 ≤ a' ∧ (a < 0 → a' < n) ∧ (0 ≤ a → a' = a) ∧ F74_L5 (n, (a, b)) = some (n, (a', a' + (b - a)))
  | m, a, b, hm, han, ha, hb => by
    by_cases h : a < 0
    · obtain ⟨m', rfl⟩ : ∃ m', m = m' + 1 := ⟨m - 1, by omega⟩
      obtain ⟨a', h1, h2, h3, h4, h5⟩ := F74_up n hn m' (a + n) (b + n) (by omega) (by omega) (by omega) (by omega)
      refine ⟨a', by rw [h1, Int.add_emod_right], h2, fun _ => ?_, by omega, ?_⟩
      · by_cases hx : a + n < 0
        · exact h3 hx
        · have := h4 (by omega); omega
      · rw [show b + n - (a + n) = b - a by omega] at h5
        rw [← h5]
        simp only [F74_L5]
        refine loopO_next ?_
        rw [F74_L5_step, T.run_test, if_pos (decide_eq_true h), T.run_ret, w64_id (by omega) (by omega), w64_id (by omega) (by omega)]
    · refine ⟨a, rfl, by omega, by omega, fun _ => rfl, ?_⟩
      simp only [F74_L5]
      refine loopO_done ?_
      rw [F74_L5_step, T.run_test, if_neg (by rw [decide_eq_true_eq]; exact h), T.run_ret, show a + (b - a) = b by omega]
theorem F74_down (n : Int) (hn : 1 ≤ n ∧ n ≤ 100) : ∀ (m : Nat) (a b : Int), a ≤ m → 0 ≤ a → a ≤ 100000 → -100000 ≤ b - a ∧ b - a ≤ 100000 → F74_L8 (n, (a, b)) = some (a % n, a % n + (b - a))
  | m, a, b, hm, h0, ha, hb => by
    by_cases h : a ≥ n
    · obtain ⟨m', rfl⟩ : ∃ m', m = m' + 1 := ⟨m - 1, by omega⟩
      have ih := F74_down n hn m' (a - n) (b - n) (by omega) (by omega) (by omega) (by omega)
      rw [show b - n - (a - n) = b - a by omega, Int.sub_emod_right] at ih
      rw [← ih]
      simp only [F74_L8]
      refine loopO_next ?_
      rw [F74_L8_step, T.run_test, if_pos (decide_eq_true h), T.run_ret, w64_id (by omega) (by omega), w64_id (by omega) (by omega)]
    · rw [Int.emod_eq_of_lt h0 (by omega), show a + (b - a) = b by omega]
      simp only [F74_L8]
      refine loopO_done ?_
      rw [F74_L8_step, T.run_test, if_neg (by rw [decide_eq_true_eq]; exact h), T.run_ret]
theorem F74_eq (q : List Int) (hl : q.length < 4611686018427387904) (i j : Int) : F74 (q, (i, j)) = some (glR q i j) := by
  rw [F74, F74_t, T.run_sub, F52_eq q hl, Option.bind_some, T.run_test]
  unfold glR
  cases h : (trOf q).isSome with
  | false => rfl
  | true =>
    have hb := (trOf_bounds h).1
    rw [if_neg (by simp), T.run_sub, F71_eq, Option.bind_some, T.run_test]
    cases h2 : inB (-1000) 1000 i with
    | false => rfl
    | true =>
      rw [inB_iff] at h2
      rw [if_neg (by simp), T.run_sub, F100_eq, w64_id (by omega) (by omega), Option.bind_some, T.run_test]
      cases h3 : inB i (i + q.length) j with
      | false => rfl
      | true =>
        rw [inB_iff] at h3
        rw [if_neg (by simp), T.run_sub]
        obtain ⟨a', e1, e2, e3, e4⟩ : ∃ a', a' % (q.length : Int) = j % (q.length : Int) ∧ 0 ≤ a' ∧ a' ≤ 100000 ∧ F74_L5 ((q.length : Int), (j, (i + q.length))) = some ((q.length : Int), (a', a' + (i + q.length - j))) := by
          by_cases hj : j < 0
          · obtain ⟨a', h1, h2, h3, h4, h5⟩ := F74_up (q.length : Int) (by omega) (-j).toNat j (i + q.length) (by omega) (by omega) (by omega) (by omega)
            have := h3 hj
            exact ⟨a', h1, h2, by omega, h5⟩
          · refine ⟨j, rfl, by omega, by omega, ?_⟩
            simp only [F74_L5]
            refine loopO_done ?_
            rw [F74_L5_step, T.run_test, if_neg (by rw [decide_eq_true_eq]; exact hj), T.run_ret, show j + (i + (q.length : Int) - j) = i + q.length by omega]
        rw [e4, Option.bind_some, T.run_sub, F74_down (q.length : Int) (by omega) a'.toNat a' _ (by omega) e2 e3 (by omega), Option.bind_some, T.run_ret, e1, if_pos (show (true && (true && true)) = true from rfl), show j % (q.length : Int) + (a' + (i + q.length - j) - a') = j % (q.length : Int) + i + q.length - j by omega]


def F21_sh : FSh := ⟨[(.one (.sl (.int .u8) false true))], []⟩

def F21_fo : List FO := [⟨[(.one (.sl (.int .i64) false true)), (.one (.si .i64))], []⟩]
noncomputable def F21_t : List (Int) → T (List (Int) × Int) := fun code =>
 (.sub (F27 (((), (10 : Int)), (code, ((0 : Int), (0 : Int))))) fun z0 =>
 (.sub (F49 (((), (7 : Int)), z0.2)) fun z1 =>
 (.sub (F49 (((), (9 : Int)), z1.2)) fun z2 =>
 (.test true
 (.ret (z0.1, (w64 (z1.1 - (w64 (Int.tdiv z2.1 (8 : Int)))))))
 .fail))))
noncomputable def F21 (v : List (Int)) : Option (List (Int) × Int) := (F21_t v).run
noncomputable def F21_E : TEnv := ((E0.add1 n_F27 F27_sh F27_fo F27).add1 n_F49 F49_sh F49_fo F49)
theorem F21_Eok : (F21_E).OK := ((E0ok.add1 F27_ok).add1 F49_ok)
noncomputable def F21_told : Nat → Option SealT := fun id => none
theorem F21_ok : FOK Tryz.prog n_F21 F21_sh F21_fo F21 :=
  fn_ok (E := F21_E) (F21_Eok) (told := F21_told) (fl := []) (c := bodyOf fn_F21) (s := F21_sh) (l := F21_fo) (tree := F21_t) fnat_F21 (by kernel_rfl) (by kernel_rfl) (by kernel_rfl) (loopsOK_of (ls := []) (by kernel_rfl) trivial) (fun v => by kernel_rfl)

theorem F21_some {code : List Int} (h : bytesOK code) : ∃ l x, F21 code = some (l, x) ∧ l.length ≤ 20 := by
  obtain ⟨l, c1, e1, hl, h1⟩ := quiddity_okN 10 (by omega) (cur0 h) (by omega)
  obtain ⟨v2, c2, e2, _, _, _, h2⟩ := pick_ok 7 h1 (by omega)
  obtain ⟨v3, c3, e3, _, _, _, h3⟩ := pick_ok 9 h2 (by omega)
  rw [F21, F21_t, T.run_sub, e1, Option.bind_some, T.run_sub, e2, Option.bind_some, T.run_sub, e3, Option.bind_some, T.run_test, if_pos rfl, T.run_ret]
  exact ⟨_, _, rfl, hl⟩



def cntV (v : Int) (l : List Int) (c : Int) : Int := l.foldl (fun c z => if z = v then c + 1 else c) c
theorem cntV_le (v : Int) : ∀ (l : List Int) (c : Int), c ≤ cntV v l c ∧ cntV v l c ≤ c + l.length
  | [], c => by simp [cntV]
  | x :: t, c => by
    have h := cntV_le v t (if x = v then c + 1 else c)
    unfold cntV at h ⊢
    rw [List.foldl_cons, List.length_cons]
    by_cases hx : x = v
    · rw [if_pos hx] at h ⊢; omega
    · rw [if_neg hx] at h ⊢; omega


def F40_sh : FSh := ⟨[(.one (.sl (.int .i64) false false)), (.one (.si .i64))], []⟩

def F40_L5_sh : LSh := ⟨(fun ex => match ex with | .norm => [(1, none), (6, none), (18, none), (19, none), (20, none)] | .exit i => if i = 0 then [(6, none)] else [] | .ret => [(4, none), (5, none)]), [(1, (.one (.si .i64))), (6, (.one (.si .i64))), (18, (.one (.rw 0 0))), (19, (.one (.si .i64))), (20, (.one (.si .i64)))], [(.row 0 (.int .i64))], [⟨(.exit 0), [(6, (.one (.si .i64)))], []⟩], [], []⟩
noncomputable def F40_L5_step : ((Int × Int × Unit × Int × Int) × List (Int)) → T (((Int × Int × Unit × Int × Int) × List (Int)) ⊕ Int) := fun ((value, count, (), t19, t20), t18) =>
 (.test (decide (t20 < t19))
 (.test (decide ((0 ≤ t20) ∧ (t20 < ((List.length t18) : Int))))
 (.sub (t18[(0 + (Int.toNat t20))]?) fun z0 =>
 (.test (z0 == value)
 (.test (decide ((0 = 0) ∧ ((List.length t18) = (List.length t18))))
 (.ret (Sum.inl ((value, ((w64 (count + 1)), ((), (t19, (w64 (t20 + 1)))))), t18)))
 .fail)
 (.test (decide ((0 = 0) ∧ ((List.length t18) = (List.length t18))))
 (.ret (Sum.inl ((value, (count, ((), (t19, (w64 (t20 + 1)))))), t18)))
 .fail)))
 .fail)
 (.ret (Sum.inr count)))
noncomputable def F40_L5 (v : ((Int × Int × Unit × Int × Int) × List (Int))) : Option Int := loopO (fun v => (F40_L5_step v).run) v

def F40_fo : List FO := [⟨[(.one (.si .i64)), (.one .sb)], []⟩]
noncomputable def F40_t : (List (Int) × Int) → T (Int × Bool) := fun (quiddity, value) =>
 (.sub (F64 quiddity) fun z0 =>
 (.test (! z0)
 (.ret ((0 : Int), false))
 (.test (decide (value < 1))
 (.ret ((0 : Int), false))
 (.sub (F77 quiddity) fun z1 =>
 (.test (decide ((0 + (List.length z1.2)) ≤ (List.length z1.2)))
 (.sub (F25 (win z1.2 0 (List.length z1.2))) fun z2 =>
 (.test (decide ((0 = 0) ∧ ((List.length z2.2) = (List.length z2.2))))
 (.sub (F40_L5 ((value, ((0 : Int), ((), (((List.length z2.2) : Int), (0 : Int))))), z2.2)) fun z3 =>
 (.ret (z3, true)))
 .fail))
 .fail)))))
noncomputable def F40 (v : (List (Int) × Int)) : Option (Int × Bool) := (F40_t v).run
noncomputable def F40_E : TEnv := (((E0.add1 n_F64 F64_sh F64_fo F64).add1 n_F77 F77_sh F77_fo F77).add1 n_F25 F25_sh F25_fo F25)
theorem F40_Eok : (F40_E).OK := (((E0ok.add1 F64_ok).add1 F77_ok).add1 F25_ok)
noncomputable def F40_told : Nat → Option SealT := fun id => if id = 5 then some (LSh.told F40_L5_sh 0 (F40_L5_step)) else none
theorem F40_L5_ok : ToldOK Tryz.prog 0 (loopAt (bodyOf fn_F40) [0]) (LSh.told F40_L5_sh 0 (F40_L5_step)) :=
  loop_ok (E := F40_E) (F40_Eok) (told := F40_told) (l := F40_L5_sh) (step := F40_L5_step) (loopsOK_of (ls := []) (by kernel_rfl) trivial) (by kernel_rfl) (fun v => by kernel_rfl)
theorem F40_ok : FOK Tryz.prog n_F40 F40_sh F40_fo F40 :=
  fn_ok (E := F40_E) (F40_Eok) (told := F40_told) (fl := []) (c := bodyOf fn_F40) (s := F40_sh) (l := F40_fo) (tree := F40_t) fnat_F40 (by kernel_rfl) (by kernel_rfl) (by kernel_rfl) (loopsOK_of (ls := [loopAt (bodyOf fn_F40) [0]]) (by kernel_rfl) ⟨.inr ⟨_, by kernel_rfl, F40_L5_ok⟩, trivial⟩) (fun v => by kernel_rfl)

theorem F40_eq (q : List Int) (hl : q.length < 4611686018427387904) (v : Int) : F40 (q, v) = some (if rowed q && !decide (v < 1) then (cntV v (frF q).flatten 0, true) else (0, false)) := by
  rw [F40, F40_t, T.run_sub, F64_eq q hl, Option.bind_some, T.run_test]
  cases h : rowed q with
  | false => rw [if_pos (by simp), T.run_ret]; rfl
  | true =>
    obtain ⟨h4, ds, hd⟩ := rowed_some h
    have hb := (trOf_bounds (l := q) (by rw [hd]; rfl)).1
    obtain ⟨f1, _⟩ := frF_flat h4 (by omega)
    have hc := concat_all (frF q) (by omega) (by rw [frF_length]; omega)
    rw [if_neg (by simp), T.run_test]
    by_cases hv : v < 1
    · rw [if_pos (decide_eq_true hv), decide_eq_true hv, T.run_ret]; rfl
    · have hL := loop_fold (step := fun s => (F40_L5_step s).run) (xs := (frF q).flatten) (fun k (c : Int) => 0 ≤ c ∧ c ≤ k) (fun k c => ((v, (c, ((), (((frF q).flatten.length : Int), (k : Int))))), (frF q).flatten)) (fun c z => if z = v then c + 1 else c) (fun c => c)
        (fun k c z hP hz => by
          have hk := getElem?_lt hz
          have w1 : w64 ((k : Int) + 1) = ((k + 1 : Nat) : Int) := by rw [w64_id (by omega) (by omega)]; omega
          have w2 : w64 (c + 1) = c + 1 := w64_id (by omega) (by omega)
          refine ⟨?_, by split <;> omega⟩
          rw [F40_L5_step, T.run_test, if_pos (decide_eq_true (by omega)), T.run_test, if_pos (decide_eq_true (by omega)), T.run_sub, Nat.zero_add, Int.toNat_natCast, hz, Option.bind_some, T.run_test]
          by_cases e : z = v
          · rw [if_pos (by rw [beq_iff_eq]; exact e), if_pos e, T.run_test, if_pos (by simp), T.run_ret, w1, w2]
          · rw [if_neg (by rw [beq_iff_eq]; exact e), if_neg e, T.run_test, if_pos (by simp), T.run_ret, w1])
        (fun c _ => by rw [F40_L5_step, T.run_test, if_neg (by simp), T.run_ret])
        (0 : Int) (by simp)
      have hL' : F40_L5 ((v, ((0 : Int), ((), (((frF q).flatten.length : Int), (0 : Int))))), (frF q).flatten) = _ := hL.1
      rw [if_neg (by rw [decide_eq_true_eq]; exact hv), decide_eq_false hv, T.run_sub, F77_eq hd, Option.bind_some]
      simp only [win_all]
      rw [T.run_test, if_pos (by simp), T.run_sub, hc, Option.bind_some, T.run_test, if_pos (by simp), T.run_sub, hL', Option.bind_some, T.run_ret]
      rfl


def F41_sh : FSh := ⟨[(.one (.sl (.int .i64) false false)), (.one (.si .i64))], []⟩

def F41_L8_sh : LSh := ⟨(fun ex => match ex with | .norm => [(1, none), (6, none), (19, none), (20, none), (21, none), (25, none), (26, none), (27, none)] | .exit i => if i = 2 then [(1, none), (6, none), (19, none), (20, none), (21, none)] else if i = 1 then [(1, none), (6, none), (19, none), (20, none), (21, none)] else if i = 0 then [(6, none)] else [] | .ret => [(4, none), (5, none)]), [(1, (.one (.si .i64))), (6, (.one (.si .i64))), (19, (.one (.rw 0 0))), (20, (.one (.si .i64))), (21, (.one (.si .i64))), (25, (.one (.sl (.int .i64) false true))), (26, (.one (.si .i64))), (27, (.one (.si .i64)))], [(.row 0 (.list true (.int .i64)))], [⟨(.exit 2), [(1, (.one (.si .i64))), (6, (.one (.si .i64))), (19, (.one (.rw 0 0))), (20, (.one (.si .i64))), (21, (.one (.si .i64)))], [(.row 0 (.list true (.int .i64)))]⟩], [], []⟩
noncomputable def F41_L8_step : ((Int × Int × Unit × Int × Int × List (Int) × Int × Int) × List (List (Int))) → T (((Int × Int × Unit × Int × Int × List (Int) × Int × Int) × List (List (Int))) ⊕ ((Int × Int × Unit × Int × Int) × List (List (Int)))) := fun ((value, n, (), t20, t21, t25, t26, t27), t19) =>
 (.test (decide (t27 < t26))
 (.test (decide ((0 ≤ t27) ∧ (t27 < ((List.length t25) : Int))))
 (.sub (t25[(Int.toNat t27)]?) fun z0 =>
 (.test (z0 == value)
 (.test (decide ((0 = 0) ∧ ((List.length t19) = (List.length t19))))
 (.ret (Sum.inl ((value, ((w64 (n + 1)), ((), (t20, (t21, (t25, (t26, (w64 (t27 + 1))))))))), t19)))
 .fail)
 (.test (decide ((0 = 0) ∧ ((List.length t19) = (List.length t19))))
 (.ret (Sum.inl ((value, (n, ((), (t20, (t21, (t25, (t26, (w64 (t27 + 1))))))))), t19)))
 .fail)))
 .fail)
 (.test (decide ((0 = 0) ∧ ((List.length t19) = (List.length t19))))
 (.ret (Sum.inr ((value, (n, ((), (t20, t21)))), t19)))
 .fail))
noncomputable def F41_L8 (v : ((Int × Int × Unit × Int × Int × List (Int) × Int × Int) × List (List (Int)))) : Option ((Int × Int × Unit × Int × Int) × List (List (Int))) := loopO (fun v => (F41_L8_step v).run) v

def F41_L5_sh : LSh := ⟨(fun ex => match ex with | .norm => [(1, none), (6, none), (19, none), (20, none), (21, none)] | .exit i => if i = 0 then [(6, none)] else [] | .ret => [(4, none), (5, none)]), [(1, (.one (.si .i64))), (6, (.one (.si .i64))), (19, (.one (.rw 0 0))), (20, (.one (.si .i64))), (21, (.one (.si .i64)))], [(.row 0 (.list true (.int .i64)))], [⟨(.exit 0), [(6, (.one (.si .i64)))], []⟩], [], []⟩
noncomputable def F41_L5_step : ((Int × Int × Unit × Int × Int) × List (List (Int))) → T (((Int × Int × Unit × Int × Int) × List (List (Int))) ⊕ Int) := fun ((value, n, (), t20, t21), t19) =>
 (.test (decide (t21 < t20))
 (.test (decide ((0 ≤ t21) ∧ (t21 < ((List.length t19) : Int))))
 (.sub (t19[(0 + (Int.toNat t21))]?) fun z0 =>
 (.test (decide ((0 = 0) ∧ ((List.length t19) = (List.length t19))))
 (.sub (F41_L8 ((value, (n, ((), (t20, (t21, (z0, (((List.length z0) : Int), (0 : Int)))))))), t19)) fun z1 =>
 (.test (decide ((0 = 0) ∧ ((List.length z1.2) = (List.length z1.2))))
 (.ret (Sum.inl ((z1.1.1, (z1.1.2.1, ((), (z1.1.2.2.2.1, (w64 (z1.1.2.2.2.2 + 1)))))), z1.2)))
 .fail))
 .fail))
 .fail)
 (.ret (Sum.inr n)))
noncomputable def F41_L5 (v : ((Int × Int × Unit × Int × Int) × List (List (Int)))) : Option Int := loopO (fun v => (F41_L5_step v).run) v

def F41_fo : List FO := [⟨[(.one (.si .i64)), (.one .sb)], []⟩]
noncomputable def F41_t : (List (Int) × Int) → T (Int × Bool) := fun (quiddity, value) =>
 (.sub (F80 quiddity) fun z0 =>
 (.test (! z0)
 (.ret ((0 : Int), false))
 (.test (decide (value < 1))
 (.ret ((0 : Int), false))
 (.sub (F103 quiddity) fun z1 =>
 (.test (decide ((0 = 0) ∧ ((List.length z1.2) = (List.length z1.2))))
 (.sub (F41_L5 ((value, ((0 : Int), ((), (((List.length z1.2) : Int), (0 : Int))))), z1.2)) fun z2 =>
 (.ret (z2, true)))
 .fail)))))
noncomputable def F41 (v : (List (Int) × Int)) : Option (Int × Bool) := (F41_t v).run
noncomputable def F41_E : TEnv := ((E0.add1 n_F80 F80_sh F80_fo F80).add1 n_F103 F103_sh F103_fo F103)
theorem F41_Eok : (F41_E).OK := ((E0ok.add1 F80_ok).add1 F103_ok)
noncomputable def F41_told : Nat → Option SealT := fun id => if id = 8 then some (LSh.told F41_L8_sh 0 (F41_L8_step)) else if id = 5 then some (LSh.told F41_L5_sh 0 (F41_L5_step)) else none
theorem F41_L8_ok : ToldOK Tryz.prog 0 (loopAt (bodyOf fn_F41) [0, 0]) (LSh.told F41_L8_sh 0 (F41_L8_step)) :=
  loop_ok (E := F41_E) (F41_Eok) (told := F41_told) (l := F41_L8_sh) (step := F41_L8_step) (loopsOK_of (ls := []) (by kernel_rfl) trivial) (by kernel_rfl) (fun v => by kernel_rfl)
theorem F41_L5_ok : ToldOK Tryz.prog 0 (loopAt (bodyOf fn_F41) [0]) (LSh.told F41_L5_sh 0 (F41_L5_step)) :=
  loop_ok (E := F41_E) (F41_Eok) (told := F41_told) (l := F41_L5_sh) (step := F41_L5_step) (loopsOK_of (ls := [loopAt (bodyOf fn_F41) [0, 0]]) (by kernel_rfl) ⟨.inr ⟨_, by kernel_rfl, F41_L8_ok⟩, trivial⟩) (by kernel_rfl) (fun v => by kernel_rfl)
theorem F41_ok : FOK Tryz.prog n_F41 F41_sh F41_fo F41 :=
  fn_ok (E := F41_E) (F41_Eok) (told := F41_told) (fl := []) (c := bodyOf fn_F41) (s := F41_sh) (l := F41_fo) (tree := F41_t) fnat_F41 (by kernel_rfl) (by kernel_rfl) (by kernel_rfl) (loopsOK_of (ls := [loopAt (bodyOf fn_F41) [0]]) (by kernel_rfl) ⟨.inr ⟨_, by kernel_rfl, F41_L5_ok⟩, trivial⟩) (fun v => by kernel_rfl)

theorem F41_eq (q : List Int) (hl : q.length < 4611686018427387904) (v : Int) : F41 (q, v) = some (if rowed q && !decide (v < 1) then (cntV v (frF q).flatten 0, true) else (0, false)) := by
  rw [F41, F41_t, T.run_sub, F80_eq q hl, Option.bind_some, T.run_test]
  cases h : rowed q with
  | false => rw [if_pos (by simp), T.run_ret]; rfl
  | true =>
    obtain ⟨h4, ds, hd⟩ := rowed_some h
    have hb := (trOf_bounds (l := q) (by rw [hd]; rfl)).1
    rw [if_neg (by simp), T.run_test]
    by_cases hv : v < 1
    · rw [if_pos (decide_eq_true hv), decide_eq_true hv, T.run_ret]; rfl
    · have inner : ∀ (row : List Int) (hr : row.length ≤ 100) (t20 t21 c0 : Int) (hc0 : 0 ≤ c0 ∧ c0 ≤ 100000) (rs : List (List Int)), F41_L8 ((v, (c0, ((), (t20, (t21, (row, ((row.length : Int), (0 : Int)))))))), rs) = some ((v, (cntV v row c0, ((), (t20, t21)))), rs) := by
        intro row hr t20 t21 c0 hc0 rs
        have h := loop_fold (step := fun s => (F41_L8_step s).run) (xs := row) (fun k (c : Int) => 0 ≤ c ∧ c ≤ 100000 + k) (fun k c => ((v, (c, ((), (t20, (t21, (row, ((row.length : Int), (k : Int)))))))), rs)) (fun c z => if z = v then c + 1 else c) (fun c => ((v, (c, ((), (t20, t21)))), rs))
          (fun k c z hP hz => by
            have hk := getElem?_lt hz
            have w1 : w64 ((k : Int) + 1) = ((k + 1 : Nat) : Int) := by rw [w64_id (by omega) (by omega)]; omega
            have w2 : w64 (c + 1) = c + 1 := w64_id (by omega) (by omega)
            refine ⟨?_, by split <;> omega⟩
            rw [F41_L8_step, T.run_test, if_pos (decide_eq_true (by omega)), T.run_test, if_pos (decide_eq_true (by omega)), T.run_sub, Int.toNat_natCast, hz, Option.bind_some, T.run_test]
            by_cases e : z = v
            · rw [if_pos (by rw [beq_iff_eq]; exact e), if_pos e, T.run_test, if_pos (by simp), T.run_ret, w1, w2]
            · rw [if_neg (by rw [beq_iff_eq]; exact e), if_neg e, T.run_test, if_pos (by simp), T.run_ret, w1])
          (fun c _ => by rw [F41_L8_step, T.run_test, if_neg (by simp), T.run_test, if_pos (by simp), T.run_ret])
          c0 (by omega)
        exact h.1
      have outer := loop_fold (step := fun s => (F41_L5_step s).run) (xs := frF q) (fun k (c : Int) => 0 ≤ c ∧ c ≤ 100 * k) (fun k c => ((v, (c, ((), (((frF q).length : Int), (k : Int))))), frF q)) (fun c row => cntV v row c) (fun c => c)
        (fun k c row hP hy => by
          have hk := getElem?_lt hy
          have hk' := hk
          rw [frF_length] at hk'
          have hrow : row.length ≤ 100 := by
            rw [frF_get hk'] at hy
            rw [← Option.some.inj hy, rowF_length]; omega
          have w1 : w64 ((k : Int) + 1) = ((k + 1 : Nat) : Int) := by rw [w64_id (by omega) (by omega)]; omega
          have hle := cntV_le v row c
          refine ⟨?_, by omega⟩
          rw [F41_L5_step, T.run_test, if_pos (decide_eq_true (by omega)), T.run_test, if_pos (decide_eq_true (by omega)), T.run_sub, Nat.zero_add, Int.toNat_natCast, hy, Option.bind_some, T.run_test, if_pos (by simp), T.run_sub, inner row hrow _ _ c (by omega), Option.bind_some, T.run_test, if_pos (by simp), T.run_ret, w1])
        (fun c _ => by rw [F41_L5_step, T.run_test, if_neg (by simp), T.run_ret])
        (0 : Int) (by simp)
      have h' : F41_L5 ((v, ((0 : Int), ((), (((frF q).length : Int), (0 : Int))))), frF q) = _ := outer.1
      have hflat : (frF q).foldl (fun c row => cntV v row c) 0 = cntV v (frF q).flatten 0 := by unfold cntV; rw [List.foldl_flatten]
      rw [if_neg (by rw [decide_eq_true_eq]; exact hv), decide_eq_false hv, T.run_sub, F103_eq hd, Option.bind_some, T.run_test, if_pos (by simp), T.run_sub, h', Option.bind_some, T.run_ret, hflat]
      rfl



theorem sum_flat : ∀ ls : List (List Int), ls.flatten.sum = (ls.map List.sum).sum
  | [] => rfl
  | x :: t => by rw [List.flatten_cons, List.sum_append, sum_flat t, List.map_cons, List.sum_cons]
theorem cnt_one {q : List Int} {ds : List Dg} (h : trOf q = some ds) (h4 : 4 ≤ q.length) : cntV 1 (frF q).flatten 0 = 2 * ((q.length : Int) - 3) := by
  unfold cntV
  rw [foldl_sum, Int.zero_add, List.map_flatten, sum_flat, ← ones_all h h4]
  congr 1
  unfold frF rowF
  simp only [List.map_map]
  refine List.map_congr_left fun t _ => ?_
  show (List.map _ (List.map _ _)).sum = _
  rw [List.map_map]
  rfl


end Go.Proofs.W
