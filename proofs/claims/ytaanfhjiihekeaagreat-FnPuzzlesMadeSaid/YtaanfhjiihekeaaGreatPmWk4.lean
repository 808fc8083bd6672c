/- Functions of the program, walked, and what they compute. -/
import Derived.Test.YtaanfhjiihekeaaGreatPmWk3
set_option linter.unusedVariables false
set_option linter.unusedSimpArgs false
set_option maxRecDepth 100000
set_option maxHeartbeats 4000000
namespace Go.Proofs.W
open Go Go.Gm Go.Proofs
open Go.RowKit Go.Shelf

def freeD (d : Dg) (b : List Dg) : Bool := !b.any (crossD d)
def goL (m : Nat) : List Dg → List Dg → List (List Dg)
  | [], _ => []
  | d :: rest, b => (if freeD d b then (if b.length + 1 = m then [b ++ [d]] else goL m rest (b ++ [d])) else []) ++ goL m rest b
def lookL (m : Nat) (rest b : List Dg) : List (List Dg) := if b.length = m then [b] else goL m rest b
theorem goL_cons (m : Nat) (d : Dg) (rest b : List Dg) : goL m (d :: rest) b = (if freeD d b then lookL m rest (b ++ [d]) else []) ++ goL m rest b := by
  conv => lhs; unfold goL
  unfold lookL
  simp only [List.length_append, List.length_cons, List.length_nil, Nat.zero_add]
def dgL (n : Nat) : List Dg := (List.range n).flatMap fun (a : Nat) => (((List.range n).map fun (b : Nat) => ((a : Int), (b : Int))).filter fun d => inDg n d)
theorem goL_len (m : Nat) : ∀ (rest b : List Dg), (goL m rest b).length ≤ 2 ^ rest.length
  | [], b => by simp [goL]
  | d :: rest, b => by
    have h1 := goL_len m rest b
    have h2 := goL_len m rest (b ++ [d])
    have h3 : 1 ≤ 2 ^ rest.length := Nat.one_le_two_pow
    rw [goL_cons, List.length_append, List.length_cons, Nat.pow_succ]
    unfold lookL
    by_cases hf : freeD d b = true
    · rw [if_pos hf]
      by_cases hb : (b ++ [d]).length = m
      · rw [if_pos hb]; simp only [List.length_cons, List.length_nil]; omega
      · rw [if_neg hb]; omega
    · rw [if_neg hf]; simp only [List.length_nil]; omega
theorem goL_mem (m : Nat) : ∀ (rest b ds : List Dg), ds ∈ goL m rest b → ds.length = m ∧ ∀ d ∈ ds, d ∈ b ∨ d ∈ rest
  | [], b, ds, h => by simp [goL] at h
  | d :: rest, b, ds, h => by
    rw [goL_cons, List.mem_append] at h
    rcases h with h | h
    · split at h
      · unfold lookL at h
        split at h
        · rename_i hl
          simp only [List.mem_singleton] at h
          subst h
          refine ⟨hl, fun e he => ?_⟩
          rcases List.mem_append.1 he with he | he
          · exact .inl he
          · simp only [List.mem_singleton] at he; subst he; exact .inr (by simp)
        · obtain ⟨h1, h2⟩ := goL_mem m rest (b ++ [d]) ds h
          refine ⟨h1, fun e he => ?_⟩
          rcases h2 e he with h | h
          · rcases List.mem_append.1 h with h | h
            · exact .inl h
            · simp only [List.mem_singleton] at h; subst h; exact .inr (by simp)
          · exact .inr (by simp [h])
      · cases h
    · obtain ⟨h1, h2⟩ := goL_mem m rest b ds h
      exact ⟨h1, fun e he => (h2 e he).imp id fun h => by simp [h]⟩
def allT (n : Nat) : List (List Dg) := lookL (n - 3) (dgL n) []
theorem dgL_len (n : Nat) (h : n ≤ 9) : (dgL n).length ≤ 27 := by
  have : ∀ k, k ≤ 9 → (dgL k).length ≤ 27 := by decide +kernel
  exact this n h
theorem allT_len (n : Nat) (h : n ≤ 9) : (allT n).length ≤ 134217728 := by
  unfold allT lookL
  split
  · simp
  · have h1 := goL_len (n - 3) (dgL n) []
    have h2 : 2 ^ (dgL n).length ≤ 2 ^ 27 := Nat.pow_le_pow_right (by omega) (dgL_len n h)
    have : (2 : Nat) ^ 27 = 134217728 := by decide
    omega
def rowD (n a b : Nat) : List Dg := (((List.range n).drop b).map fun (b : Nat) => ((a : Int), (b : Int))).filter fun d => inDg n d
theorem rowD_end (n a : Nat) : rowD n a n = [] := by
  unfold rowD
  rw [List.drop_of_length_le (by simp)]
  rfl
theorem rowD_step {n a b : Nat} (h : b < n) : rowD n a b = (if inDg n ((a : Int), (b : Int)) then [((a : Int), (b : Int))] else []) ++ rowD n a (b + 1) := by
  unfold rowD
  rw [List.drop_eq_getElem_cons (by simpa using h), List.map_cons, List.filter_cons, List.getElem_range]
  split <;> rfl
theorem inDg_iff {n : Int} {d : Dg} : inDg n d = true ↔ (0 ≤ d.1 ∧ d.1 ≤ n - 1) ∧ (0 ≤ d.2 ∧ d.2 ≤ n - 1) ∧ d.2 - d.1 > 1 ∧ ¬ (d.1 = 0 ∧ d.2 = n - 1) := by
  unfold inDg
  simp [inB_iff, and_assoc]
  intros
  omega
theorem rowD_front (n a : Nat) : ∀ k, k ≤ a + 2 → rowD n a 0 = rowD n a k
  | 0, _ => rfl
  | k + 1, h => by
    rw [rowD_front n a k (by omega)]
    by_cases hk : k < n
    · rw [rowD_step hk, if_neg, List.nil_append]
      rw [inDg_iff]
      simp only []
      omega
    · unfold rowD
      rw [List.drop_of_length_le (by simp; omega), List.drop_of_length_le (by simp; omega)]
theorem dgL_rows (n : Nat) : dgL n = (List.range n).flatMap fun a => rowD n a 0 := rfl
theorem rowD_len (n a b : Nat) : (rowD n a b).length ≤ n := by
  unfold rowD
  exact Nat.le_trans (List.length_filter_le ..) (by simp)
def rowsD (n a : Nat) : List Dg := ((List.range n).drop a).flatMap fun a => rowD n a 0
theorem rowsD_end (n : Nat) : rowsD n n = [] := by unfold rowsD; rw [List.drop_of_length_le (by simp)]; rfl
theorem rowsD_step {n a : Nat} (h : a < n) : rowsD n a = rowD n a 0 ++ rowsD n (a + 1) := by
  unfold rowsD
  rw [List.drop_eq_getElem_cons (by simpa using h), List.flatMap_cons, List.getElem_range]
theorem drop_gD {t : List Dg} {i : Nat} (h : i < t.length) : t.drop i = gD t i :: t.drop (i + 1) := by rw [gD_eq h, List.drop_eq_getElem_cons h]
theorem look_pow {m : Nat} {t b : List Dg} {i k : Nat} (hm : m = t.length - (i + 1)) : (lookL k (t.drop (i + 1)) b).length ≤ 2 ^ m := by
  unfold lookL
  split
  · simp only [List.length_cons, List.length_nil]; exact Nat.one_le_two_pow
  · have := goL_len k (t.drop (i + 1)) b
    rwa [List.length_drop, ← hm] at this
def allQ (n : Nat) : List (List Int) := sortL ((allT n).map (quid n))
theorem allT_in {n : Nat} {ds : List Dg} (hn : 3 ≤ n ∧ n ≤ 9) (h : ds ∈ allT n) : ds.length = n - 3 ∧ ∀ d ∈ ds, 0 ≤ d.1 ∧ d.1 < d.2 ∧ d.2 < (n : Int) := by
  have hg : ds.length = n - 3 ∧ ∀ d ∈ ds, d ∈ dgL n := by
    unfold allT lookL at h
    split at h
    · rename_i hl
      simp only [List.mem_singleton] at h
      subst h
      exact ⟨hl, by simp⟩
    · obtain ⟨h1, h2⟩ := goL_mem _ _ _ _ h
      exact ⟨h1, fun d hd => (h2 d hd).resolve_left (by simp)⟩
  refine ⟨hg.1, fun d hd => ?_⟩
  have := hg.2 d hd
  unfold dgL at this
  obtain ⟨a, _, ha⟩ := List.mem_flatMap.1 this
  have := (List.mem_filter.1 ha).2
  rw [inDg_iff] at this
  omega
theorem quid_length (n : Nat) (ds : List Dg) : (quid n ds).length = n := by simp [quid]
theorem ltL_drop {a b : List Int} (h : a.length = b.length) : ∀ {k : Nat}, k < a.length → ltL (a.drop k) (b.drop k) = if a.getD k 0 ≠ b.getD k 0 then decide (a.getD k 0 < b.getD k 0) else ltL (a.drop (k + 1)) (b.drop (k + 1)) := by
  intro k hk
  have hb : k < b.length := by omega
  rw [List.drop_eq_getElem_cons hk, List.drop_eq_getElem_cons hb]
  simp only [List.getD_eq_getElem?_getD, List.getElem?_eq_getElem hk, List.getElem?_eq_getElem hb, Option.getD_some]
  conv => lhs; unfold ltL
  by_cases h1 : a[k] < b[k]
  · rw [if_pos h1, if_pos (by omega)]; simp [h1]
  · rw [if_neg h1]
    by_cases h2 : b[k] < a[k]
    · rw [if_pos h2, if_pos (by omega)]; simp [h1]
    · rw [if_neg h2, if_neg (by omega)]
theorem insL_length (out : List (List Int)) (q : List Int) : (insL out q).length = out.length + 1 := by simpa using (insL_perm out q).length_eq
def solL (p : List Int) : List (List Int) := (allQ p.length).filter (fits p)
theorem allQ_len (n : Nat) (hn : n ≤ 9) : (allQ n).length ≤ 134217728 := by
  unfold allQ
  rw [(sortL_perm _).length_eq, List.length_map]
  exact allT_len n hn
theorem allQ_mem {n : Nat} {q : List Int} (h : q ∈ allQ n) : q.length = n := by
  have := (sortL_perm _).mem_iff.1 h
  obtain ⟨ds, _, e⟩ := List.mem_map.1 this
  rw [← e, quid_length]
theorem solL_len (p : List Int) (hp : p.length ≤ 9) : (solL p).length ≤ 134217728 := Nat.le_trans (List.length_filter_le ..) (allQ_len _ hp)
def solR (p : List Int) : Bool × List (List Int) := if isPz p then (if (solL p).length ≤ 300 then (true, solL p) else (false, [])) else (false, [])
theorem solR_mem {p q : List Int} (h : q ∈ (solR p).2) : q.length = p.length ∧ p.length ≤ 9 := by
  unfold solR at h
  split at h
  · rename_i hp
    split at h
    · exact ⟨allQ_mem (List.mem_filter.1 h).1, (isPz_len hp).2⟩
    · simp at h
  · simp at h
def F54_sh : FSh := ⟨[(.one (.si .i64))], []⟩

def F54_L6_sh : LSh := ⟨(fun ex => match ex with | .norm => [(0, none), (3, none), (4, none), (5, none), (8, none), (9, none)] | .exit i => if i = 2 then [(0, none), (3, none), (8, none), (9, none)] else if i = 1 then [(0, none), (3, none), (8, none), (9, none)] else if i = 0 then [(3, none)] else [] | .ret => [(2, none)]), [(0, (.one (.si .i64))), (3, (.one (.rw 0 0))), (4, (.one (.si .i64))), (5, (.one (.si .i64))), (8, (.one (.si .i64))), (9, (.one (.si .i64)))], [(.row 0 (.pair (.int .i64) (.int .i64)))], [⟨(.exit 2), [(0, (.one (.si .i64))), (3, (.one (.rw 0 0))), (8, (.one (.si .i64))), (9, (.one (.si .i64)))], [(.row 0 (.pair (.int .i64) (.int .i64)))]⟩], [], []⟩
noncomputable def F54_L6_step : ((Int × Unit × Int × Int × Int × Int) × List ((Int × Int))) → T (((Int × Unit × Int × Int × Int × Int) × List ((Int × Int))) ⊕ ((Int × Unit × Int × Int) × List ((Int × Int)))) := fun ((n, (), low, high, t8, t9), out) =>
 (.test (decide (high < n))
 (.sub (F69 (n, (low, high))) fun z0 =>
 (.test z0
 (.test (decide (1 ≤ (List.length (List.set (List.replicate 1 ((0 : Int), (0 : Int))) 0 (low, high)))))
 (.test (decide ((0 + (List.length out)) ≤ (List.length out)))
 (.test (decide ((2 * (((List.length out) + (List.length (win (List.set (List.replicate 1 ((0 : Int), (0 : Int))) 0 (low, high)) 0 1))) * 17)) ≤ 140737488355328))
 (.test (decide ((0 = 0) ∧ (((List.length out) + (List.length (win (List.set (List.replicate 1 ((0 : Int), (0 : Int))) 0 (low, high)) 0 1))) = (List.length ((win out 0 (List.length out)) ++ (win (List.set (List.replicate 1 ((0 : Int), (0 : Int))) 0 (low, high)) 0 1))))))
 (.ret (Sum.inl ((n, ((), (low, ((w64 (high + 1)), (t8, t9))))), ((win out 0 (List.length out)) ++ (win (List.set (List.replicate 1 ((0 : Int), (0 : Int))) 0 (low, high)) 0 1)))))
 .fail)
 .fail)
 .fail)
 .fail)
 (.test (decide ((0 = 0) ∧ ((List.length out) = (List.length out))))
 (.ret (Sum.inl ((n, ((), (low, ((w64 (high + 1)), (t8, t9))))), out)))
 .fail)))
 (.test (decide ((0 = 0) ∧ ((List.length out) = (List.length out))))
 (.ret (Sum.inr ((n, ((), (t8, t9))), out)))
 .fail))
noncomputable def F54_L6 (v : ((Int × Unit × Int × Int × Int × Int) × List ((Int × Int)))) : Option ((Int × Unit × Int × Int) × List ((Int × Int))) := loopO (fun v => (F54_L6_step v).run) v

def F54_L3_sh : LSh := ⟨(fun ex => match ex with | .norm => [(0, none), (3, none), (8, none), (9, none)] | .exit i => if i = 0 then [(3, none)] else [] | .ret => [(2, none)]), [(0, (.one (.si .i64))), (3, (.one (.rw 0 0))), (8, (.one (.si .i64))), (9, (.one (.si .i64)))], [(.row 0 (.pair (.int .i64) (.int .i64)))], [⟨(.exit 0), [(3, (.one (.rw 0 0)))], [(.row 0 (.pair (.int .i64) (.int .i64)))]⟩], [], []⟩
noncomputable def F54_L3_step : ((Int × Unit × Int × Int) × List ((Int × Int))) → T (((Int × Unit × Int × Int) × List ((Int × Int))) ⊕ (Unit × List ((Int × Int)))) := fun ((n, (), t8, t9), out) =>
 (.test (decide (t9 < t8))
 (.test (decide ((0 = 0) ∧ ((List.length out) = (List.length out))))
 (.sub (F54_L6 ((n, ((), (t9, ((w64 (t9 + 1)), (t8, t9))))), out)) fun z0 =>
 (.test (decide ((0 = 0) ∧ ((List.length z0.2) = (List.length z0.2))))
 (.ret (Sum.inl ((z0.1.1, ((), (z0.1.2.2.1, (w64 (z0.1.2.2.2 + 1))))), z0.2)))
 .fail))
 .fail)
 (.test (decide ((0 = 0) ∧ ((List.length out) = (List.length out))))
 (.ret (Sum.inr ((), out)))
 .fail))
noncomputable def F54_L3 (v : ((Int × Unit × Int × Int) × List ((Int × Int)))) : Option (Unit × List ((Int × Int))) := loopO (fun v => (F54_L3_step v).run) v

def F54_fo : List FO := [⟨[(.one (.rw 0 0))], [(.row 0 (.pair (.int .i64) (.int .i64)))]⟩]
noncomputable def F54_t : Int → T (Unit × List ((Int × Int))) := fun n =>
 (.test true
 (.sub (F54_L3 ((n, ((), (n, (0 : Int)))), (List.replicate 0 ((0 : Int), (0 : Int))))) fun z0 =>
 (.test (decide ((0 = 0) ∧ ((List.length z0.2) = (List.length z0.2))))
 (.ret ((), z0.2))
 .fail))
 .fail)
noncomputable def F54 (v : Int) : Option (Unit × List ((Int × Int))) := (F54_t v).run
noncomputable def F54_E : TEnv := (E0.add1 n_F69 F69_sh F69_fo F69)
theorem F54_Eok : (F54_E).OK := (E0ok.add1 F69_ok)
noncomputable def F54_told : Nat → Option SealT := fun id => if id = 6 then some (LSh.told F54_L6_sh 0 (F54_L6_step)) else if id = 3 then some (LSh.told F54_L3_sh 0 (F54_L3_step)) else none
theorem F54_L6_ok : ToldOK Tryz.prog 0 (loopAt (bodyOf fn_F54) [0, 0]) (LSh.told F54_L6_sh 0 (F54_L6_step)) :=
  loop_ok (E := F54_E) (F54_Eok) (told := F54_told) (l := F54_L6_sh) (step := F54_L6_step) (loopsOK_of (ls := []) (by kernel_rfl) trivial) (by kernel_rfl) (fun v => by kernel_rfl)
theorem F54_L3_ok : ToldOK Tryz.prog 0 (loopAt (bodyOf fn_F54) [0]) (LSh.told F54_L3_sh 0 (F54_L3_step)) :=
  loop_ok (E := F54_E) (F54_Eok) (told := F54_told) (l := F54_L3_sh) (step := F54_L3_step) (loopsOK_of (ls := [loopAt (bodyOf fn_F54) [0, 0]]) (by kernel_rfl) ⟨.inr ⟨_, by kernel_rfl, F54_L6_ok⟩, trivial⟩) (by kernel_rfl) (fun v => by kernel_rfl)
theorem F54_ok : FOK Tryz.prog n_F54 F54_sh F54_fo F54 :=
  fn_ok (E := F54_E) (F54_Eok) (told := F54_told) (fl := []) (c := bodyOf fn_F54) (s := F54_sh) (l := F54_fo) (tree := F54_t) fnat_F54 (by kernel_rfl) (by kernel_rfl) (by kernel_rfl) (loopsOK_of (ls := [loopAt (bodyOf fn_F54) [0]]) (by kernel_rfl) ⟨.inr ⟨_, by kernel_rfl, F54_L3_ok⟩, trivial⟩) (fun v => by kernel_rfl)

theorem F54_row (n a : Nat) (t8 t9 : Int) (hn : n ≤ 1000) : ∀ (m b : Nat) (out : List Dg), b + m = n → out.length + m ≤ 1000000 →
    F54_L6 (((n : Int), ((), ((a : Int), ((b : Int), (t8, t9))))), out) = some (((n : Int), ((), (t8, t9))), out ++ rowD n a b)
  | 0, b, out, hb, ho => by
    have : b = n := by omega
    subst this
    rw [rowD_end, List.append_nil]
    simp only [F54_L6]
    exact loopO_done (by simp [F54_L6_step, T.run])
  | m + 1, b, out, hb, ho => by
    have c0 : (b : Int) < (n : Int) := by omega
    have w1 : w64 ((b : Int) + 1) = ((b + 1 : Nat) : Int) := by rw [w64_id (by omega) (by omega)]; omega
    have c1 : 2 * ((out.length + 1) * 17) ≤ 140737488355328 := by omega
    have hd := F69_eq (n : Int) ((a : Int), (b : Int)) (by omega) (by omega)
    rw [rowD_step (by omega : b < n)]
    cases hg : inDg n ((a : Int), (b : Int)) with
    | true =>
      have ih := F54_row n a t8 t9 hn m (b + 1) (out ++ [((a : Int), (b : Int))]) (by omega) (by simp; omega)
      simp only [F54_L6] at ih ⊢
      rw [hg] at hd
      have st : (F54_L6_step (((n : Int), ((), ((a : Int), ((b : Int), (t8, t9))))), out)).run = some (.inl (((n : Int), ((), ((a : Int), (((b + 1 : Nat) : Int), (t8, t9))))), out ++ [((a : Int), (b : Int))])) := by
        simp only [F54_L6_step, T.run, c0, hd, decide_true, if_true, Option.bind_some, win_one, win_all, List.length_cons, List.length_nil, Nat.zero_add, c1, w1, List.length_set, List.length_replicate, Nat.le_refl, List.length_append, true_and]
      rw [loopO_next st, ih]
      simp
    | false =>
      have ih := F54_row n a t8 t9 hn m (b + 1) out (by omega) (by omega)
      simp only [F54_L6] at ih ⊢
      rw [hg] at hd
      have st : (F54_L6_step (((n : Int), ((), ((a : Int), ((b : Int), (t8, t9))))), out)).run = some (.inl (((n : Int), ((), ((a : Int), (((b + 1 : Nat) : Int), (t8, t9))))), out)) := by
        simp only [F54_L6_step, T.run, c0, hd, decide_true, if_true, Option.bind_some, Bool.false_eq_true, if_false, w1, true_and]
      rw [loopO_next st, ih]
      simp
theorem F54_rows (n : Nat) (hn : n ≤ 9) : ∀ (m a : Nat) (out : List Dg), a + m = n → out.length ≤ 1000 * a →
    F54_L3 (((n : Int), ((), ((n : Int), (a : Int)))), out) = some ((), out ++ rowsD n a)
  | 0, a, out, ha, ho => by
    have : a = n := by omega
    subst this
    rw [rowsD_end, List.append_nil]
    simp only [F54_L3]
    exact loopO_done (by simp [F54_L3_step, T.run])
  | m + 1, a, out, ha, ho => by
    have c0 : (a : Int) < (n : Int) := by omega
    have w1 : w64 ((a : Int) + 1) = ((a + 1 : Nat) : Int) := by rw [w64_id (by omega) (by omega)]; omega
    have hr := F54_row n a (n : Int) (a : Int) (by omega) (n - (a + 1)) (a + 1) out (by omega) (by omega)
    rw [← rowD_front n a (a + 1) (by omega)] at hr
    have hl := rowD_len n a 0
    have ih := F54_rows n hn m (a + 1) (out ++ rowD n a 0) (by omega) (by rw [List.length_append]; omega)
    rw [rowsD_step (by omega : a < n), ← List.append_assoc]
    simp only [F54_L3] at ih ⊢
    rw [← ih]
    refine loopO_next ?_
    simp only [F54_L3_step, T.run, c0, decide_true, if_true, true_and, w1, hr, Option.bind_some]
theorem F54_eq (n : Nat) (hn : n ≤ 9) : F54 (n : Int) = some ((), dgL n) := by
  have h := F54_rows n hn n 0 [] (by omega) (by simp)
  have e : rowsD n 0 = dgL n := by unfold rowsD; rw [List.drop_zero, dgL_rows]
  rw [e, List.nil_append, Int.natCast_zero] at h
  simp only [F54, F54_t, T.run, List.replicate_zero, h, Option.bind_some]
  simp


def F21_sh : FSh := ⟨[.one (.sl (.pair (.int .i64) (.int .i64)) false false)], []⟩
def F21_fo : List FO := [⟨[.one (.rw 0 0)], [.row 0 (.pair (.int .i64) (.int .i64))]⟩]
def F21 (v : List (Int × Int)) : Option (Unit × List (Int × Int)) := if v.length ≤ maxLen ∧ v.length * 16 ≤ 140737488355328 then some ((), v) else none
def F21_ren : Shelf.Ren := ⟨fun _ => n_F21, fun t => if t = 4 then 4 else if t = 22 then 31 else 52, fun x => x⟩
theorem F21_lay : SlLaysE0.n41 Tryz.prog F21_ren :=
  { mixed := by kernel_rfl, f41 := ⟨"slices.Clone[[]loop.example/g01236/impl.Diagonal,loop.example/g01236/impl.Diagonal]", by kernel_rfl, by kernel_rfl⟩, t4 := by kernel_rfl, a4 := fun w => by kernel_rfl, z4 := fun w => by kernel_rfl, v4 := fun w => by kernel_rfl, t22 := by kernel_rfl, a22 := fun w => by kernel_rfl, z22 := fun w => by kernel_rfl, v22 := fun w => by kernel_rfl }
noncomputable def F21_info : TypeInfo := (Tryz.prog.info? 52).get (by kernel_rfl)
theorem F21_ok : FOK Tryz.prog n_F21 F21_sh F21_fo F21 :=
  clone_ok (e := (.pair (.int .i64) (.int .i64))) ⟨_, fnat_F21, by kernel_rfl, by kernel_rfl⟩ (ρr := F21_ren) rfl F21_lay rfl F21_info (.agg #[.int .i64 0, .int .i64 0]) 16 (by kernel_rfl) (by kernel_rfl) (by kernel_rfl) (by kernel_rfl) (by decide) (by decide) (fun w => by kernel_rfl)

def F18_sh : FSh := ⟨[(.ag [(.si .i64), (.si .i64)]), (.one (.pf 0 0 0)), (.one (.pf 2 0 0))], [(.rcd 0 [(.rw 1 0)]), (.row 0 (.pair (.int .i64) (.int .i64))), (.rcd 0 [(.si .i64)])]⟩

def F18_fo : List FO := [⟨[(.one .sb)], [(.rcd 0 [(.rw 1 0)]), (.row 0 (.pair (.int .i64) (.int .i64))), (.rcd 0 [(.si .i64)])]⟩]
noncomputable def F18_t : (((Int × Int) × Unit × Unit) × (Unit × List ((Int × Int)) × Int)) → T (Bool × (Unit × List ((Int × Int)) × Int)) := fun (((e_0, e_1), (), ()), ((), t1_r, t2_0)) =>
 (.test (decide ((0 ≤ t2_0) ∧ (t2_0 < ((List.length t1_r) : Int))))
 (.sub (t1_r[(0 + (Int.toNat t2_0))]?) fun z0 =>
 (.sub (F88 ((z0.1, z0.2), (e_0, e_1))) fun z1 =>
 (.test (decide ((0 = 0) ∧ ((List.length t1_r) = (List.length t1_r))))
 (.ret (z1, ((), (t1_r, t2_0))))
 .fail)))
 .fail)
noncomputable def F18 (v : (((Int × Int) × Unit × Unit) × (Unit × List ((Int × Int)) × Int))) : Option (Bool × (Unit × List ((Int × Int)) × Int)) := (F18_t v).run
noncomputable def F18_E : TEnv := (E0.add1 n_F88 F88_sh F88_fo F88)
theorem F18_Eok : (F18_E).OK := (E0ok.add1 F88_ok)
noncomputable def F18_told : Nat → Option SealT := fun id => none
theorem F18_ok : FOK Tryz.prog n_F18 F18_sh F18_fo F18 :=
  fn_ok (E := F18_E) (F18_Eok) (told := F18_told) (fl := []) (c := bodyOf fn_F18) (s := F18_sh) (l := F18_fo) (tree := F18_t) fnat_F18 (by kernel_rfl) (by kernel_rfl) (by kernel_rfl) (loopsOK_of (ls := []) (by kernel_rfl) trivial) (fun v => by kernel_rfl)

def F3_sh : FSh := ⟨[(.one (.sl (.pair (.int .i64) (.int .i64)) false false)), (.clo n_F18 [(.one (.pf 0 0 0)), (.one (.pf 2 0 0))])], [(.rcd 0 [(.rw 1 0)]), (.row 0 (.pair (.int .i64) (.int .i64))), (.rcd 0 [(.si .i64)])]⟩

def F3_L2_sh : LSh := ⟨(fun ex => match ex with | .norm => [(0, none), (1, none), (7, none), (8, none)] | .exit i => if i = 0 then [] else [] | .ret => [(4, none)]), [(0, (.one (.sl (.pair (.int .i64) (.int .i64)) false false))), (1, (.clo n_F18 [(.one (.pf 0 0 0)), (.one (.pf 2 0 0))])), (7, (.one (.si .i64))), (8, (.one (.si .i64)))], [(.rcd 0 [(.rw 1 0)]), (.row 0 (.pair (.int .i64) (.int .i64))), (.rcd 0 [(.si .i64)])], [⟨.ret, [(4, (.one (.si .i64)))], [(.rcd 0 [(.rw 1 0)]), (.row 0 (.pair (.int .i64) (.int .i64))), (.rcd 0 [(.si .i64)])]⟩, ⟨(.exit 0), [], [(.rcd 0 [(.rw 1 0)]), (.row 0 (.pair (.int .i64) (.int .i64))), (.rcd 0 [(.si .i64)])]⟩], [], []⟩
noncomputable def F3_L2_step : ((List ((Int × Int)) × (Unit × Unit) × Int × Int) × (Unit × List ((Int × Int)) × Int)) → T (((List ((Int × Int)) × (Unit × Unit) × Int × Int) × (Unit × List ((Int × Int)) × Int)) ⊕ ((Int × (Unit × List ((Int × Int)) × Int)) ⊕ (Unit × (Unit × List ((Int × Int)) × Int)))) := fun ((s, ((), ()), t7, t8), ((), r0_r, r2_0)) =>
 (.test (decide (t8 < t7))
 (.test (decide ((0 ≤ t8) ∧ (t8 < ((List.length s) : Int))))
 (.sub (s[(Int.toNat t8)]?) fun z0 =>
 (.test (decide ((0 = 0) ∧ ((List.length r0_r) = (List.length r0_r))))
 (.sub (F18 (((z0.1, z0.2), ((), ())), ((), (r0_r, r2_0)))) fun z1 =>
 (.test z1.1
 (.test (decide ((0 = 0) ∧ ((List.length z1.2.2.1) = (List.length z1.2.2.1))))
 (.ret (Sum.inr (Sum.inl (t8, ((), (z1.2.2.1, z1.2.2.2))))))
 .fail)
 (.test (decide ((0 = 0) ∧ ((List.length z1.2.2.1) = (List.length z1.2.2.1))))
 (.ret (Sum.inl ((s, (((), ()), (t7, (w64 (t8 + 1))))), ((), (z1.2.2.1, z1.2.2.2)))))
 .fail)))
 .fail))
 .fail)
 (.test (decide ((0 = 0) ∧ ((List.length r0_r) = (List.length r0_r))))
 (.ret (Sum.inr (Sum.inr ((), ((), (r0_r, r2_0))))))
 .fail))
noncomputable def F3_L2 (v : ((List ((Int × Int)) × (Unit × Unit) × Int × Int) × (Unit × List ((Int × Int)) × Int))) : Option ((Int × (Unit × List ((Int × Int)) × Int)) ⊕ (Unit × (Unit × List ((Int × Int)) × Int))) := loopO (fun v => (F3_L2_step v).run) v

def F3_fo : List FO := [⟨[(.one (.si .i64))], [(.rcd 0 [(.rw 1 0)]), (.row 0 (.pair (.int .i64) (.int .i64))), (.rcd 0 [(.si .i64)])]⟩]
noncomputable def F3_t : ((List ((Int × Int)) × (Unit × Unit)) × (Unit × List ((Int × Int)) × Int)) → T (Int × (Unit × List ((Int × Int)) × Int)) := fun ((s, ((), ())), ((), r0_r, r2_0)) =>
 (.test (decide ((0 = 0) ∧ ((List.length r0_r) = (List.length r0_r))))
 (.sub (F3_L2 ((s, (((), ()), (((List.length s) : Int), (0 : Int)))), ((), (r0_r, r2_0)))) fun z0 =>
 (.test (Sum.isLeft z0)
 (.sub (Sum.getLeft? z0) fun z1 =>
 (.test (decide ((0 = 0) ∧ ((List.length z1.2.2.1) = (List.length z1.2.2.1))))
 (.ret (z1.1, ((), (z1.2.2.1, z1.2.2.2))))
 .fail))
 (.sub (Sum.getRight? z0) fun z2 =>
 (.test (decide ((0 = 0) ∧ ((List.length z2.2.2.1) = (List.length z2.2.2.1))))
 (.ret ((-1), ((), (z2.2.2.1, z2.2.2.2))))
 .fail))))
 .fail)
noncomputable def F3 (v : ((List ((Int × Int)) × (Unit × Unit)) × (Unit × List ((Int × Int)) × Int))) : Option (Int × (Unit × List ((Int × Int)) × Int)) := (F3_t v).run
noncomputable def F3_E : TEnv := (E0.add1 n_F18 F18_sh F18_fo F18)
theorem F3_Eok : (F3_E).OK := (E0ok.add1 F18_ok)
noncomputable def F3_told : Nat → Option SealT := fun id => if id = 2 then some (LSh.told F3_L2_sh 3 (F3_L2_step)) else none
theorem F3_L2_ok : ToldOK Tryz.prog 3 (loopAt (bodyOf fn_F16) [0]) (LSh.told F3_L2_sh 3 (F3_L2_step)) :=
  loop_ok (E := F3_E) (F3_Eok) (told := F3_told) (l := F3_L2_sh) (step := F3_L2_step) (loopsOK_of (ls := []) (by kernel_rfl) trivial) (by kernel_rfl) (fun v => by kernel_rfl)
theorem F3_ok : FOK Tryz.prog n_F16 F3_sh F3_fo F3 :=
  fn_ok (E := F3_E) (F3_Eok) (told := F3_told) (fl := []) (c := bodyOf fn_F16) (s := F3_sh) (l := F3_fo) (tree := F3_t) fnat_F16 (by kernel_rfl) (by kernel_rfl) (by kernel_rfl) (loopsOK_of (ls := [loopAt (bodyOf fn_F16) [0]]) (by kernel_rfl) ⟨.inr ⟨_, by kernel_rfl, F3_L2_ok⟩, trivial⟩) (fun v => by kernel_rfl)

def F1_sh : FSh := ⟨[(.one (.sl (.pair (.int .i64) (.int .i64)) false false)), (.clo n_F18 [(.one (.pf 0 0 0)), (.one (.pf 2 0 0))])], [(.rcd 0 [(.rw 1 0)]), (.row 0 (.pair (.int .i64) (.int .i64))), (.rcd 0 [(.si .i64)])]⟩

def F1_fo : List FO := [⟨[(.one .sb)], [(.rcd 0 [(.rw 1 0)]), (.row 0 (.pair (.int .i64) (.int .i64))), (.rcd 0 [(.si .i64)])]⟩]
noncomputable def F1_t : ((List ((Int × Int)) × (Unit × Unit)) × (Unit × List ((Int × Int)) × Int)) → T (Bool × (Unit × List ((Int × Int)) × Int)) := fun ((s, ((), ())), ((), r0_r, r2_0)) =>
 (.test (decide ((0 = 0) ∧ ((List.length r0_r) = (List.length r0_r))))
 (.sub (F3 ((s, ((), ())), ((), (r0_r, r2_0)))) fun z0 =>
 (.test (decide ((0 = 0) ∧ ((List.length z0.2.2.1) = (List.length z0.2.2.1))))
 (.ret ((decide (z0.1 ≥ 0)), ((), (z0.2.2.1, z0.2.2.2))))
 .fail))
 .fail)
noncomputable def F1 (v : ((List ((Int × Int)) × (Unit × Unit)) × (Unit × List ((Int × Int)) × Int))) : Option (Bool × (Unit × List ((Int × Int)) × Int)) := (F1_t v).run
noncomputable def F1_E : TEnv := (E0.add1 n_F16 F3_sh F3_fo F3)
theorem F1_Eok : (F1_E).OK := (E0ok.add1 F3_ok)
noncomputable def F1_told : Nat → Option SealT := fun id => none
theorem F1_ok : FOK Tryz.prog n_F15 F1_sh F1_fo F1 :=
  fn_ok (E := F1_E) (F1_Eok) (told := F1_told) (fl := []) (c := bodyOf fn_F15) (s := F1_sh) (l := F1_fo) (tree := F1_t) fnat_F15 (by kernel_rfl) (by kernel_rfl) (by kernel_rfl) (loopsOK_of (ls := []) (by kernel_rfl) trivial) (fun v => by kernel_rfl)

def F22_sh : FSh := ⟨[(.one (.sl (.pair (.int .i64) (.int .i64)) false false)), (.one (.si .i64)), (.one (.pf 0 0 0)), (.one (.pf 1 0 0)), (.one (.pf 3 0 0)), (.one (.pf 5 0 0))], [(.rcd 0 [(.si .i64)]), (.rcd 0 [(.rw 2 0)]), (.row 0 (.list true (.pair (.int .i64) (.int .i64)))), (.rcd 0 [(.rw 4 0)]), (.row 0 (.pair (.int .i64) (.int .i64))), (.rcd 0 [(.clo n_F22 [(0, 0, 0), (1, 0, 0), (3, 0, 0), (5, 0, 0)])])]⟩

def F22_fo : List FO := [⟨[], [(.rcd 0 [(.si .i64)]), (.rcd 0 [(.rw 2 1)]), (.row 1 (.list true (.pair (.int .i64) (.int .i64)))), (.rcd 0 [(.rw 4 0)]), (.row 0 (.pair (.int .i64) (.int .i64))), (.rcd 0 [(.clo n_F22 [(0, 0, 0), (1, 0, 0), (3, 0, 0), (5, 0, 0)])])]⟩]

def F22_L3_sh : LSh := ⟨(fun ex => match ex with | .norm => [(0, none), (4, none), (5, none), (8, none)] | .exit i => if i = 0 then [] else [] | .ret => []), [(0, (.one (.sl (.pair (.int .i64) (.int .i64)) false false))), (4, (.one (.pf 3 0 0))), (5, (.one (.pf 5 0 0))), (8, (.one (.pf 6 0 0)))], [(.rcd 0 [(.si .i64)]), (.rcd 0 [(.rw 2 1)]), (.row 1 (.list true (.pair (.int .i64) (.int .i64)))), (.rcd 0 [(.rw 4 0)]), (.row 0 (.pair (.int .i64) (.int .i64))), (.rcd 0 [(.clo n_F22 [(0, 0, 0), (1, 0, 0), (3, 0, 0), (5, 0, 0)])]), (.rcd 0 [(.si .i64)])], [⟨(.exit 0), [], [(.rcd 0 [(.si .i64)]), (.rcd 0 [(.rw 2 1)]), (.row 1 (.list true (.pair (.int .i64) (.int .i64)))), (.rcd 0 [(.rw 4 0)]), (.row 0 (.pair (.int .i64) (.int .i64))), (.rcd 0 [(.clo n_F22 [(0, 0, 0), (1, 0, 0), (3, 0, 0), (5, 0, 0)])])]⟩], [], [2]⟩
noncomputable def F22_L3_step (recv : ((List ((Int × Int)) × Int × Unit × Unit × Unit × Unit) × (Int × Unit × List (List ((Int × Int))) × Unit × List ((Int × Int)) × Unit)) → Option (Unit × (Int × Unit × List (List ((Int × Int))) × Unit × List ((Int × Int)) × Unit))) : ((List ((Int × Int)) × Unit × Unit × Unit) × (Int × Unit × List (List ((Int × Int))) × Unit × List ((Int × Int)) × Unit × Int)) → T (((List ((Int × Int)) × Unit × Unit × Unit) × (Int × Unit × List (List ((Int × Int))) × Unit × List ((Int × Int)) × Unit × Int)) ⊕ (Unit × (Int × Unit × List (List ((Int × Int))) × Unit × List ((Int × Int)) × Unit))) := fun ((begin, (), (), ()), (r0_0, (), r1_r, (), t4_r, (), i_0)) =>
 (.test (decide (i_0 < ((List.length t4_r) : Int)))
 (.test (decide ((0 = 0) ∧ ((List.length t4_r) = (List.length t4_r))))
 (.sub (F1 ((begin, ((), ())), ((), (t4_r, i_0)))) fun z0 =>
 (.test (! z0.1)
 (.test (decide (0 ≤ ((List.length begin) : Int)))
 (.test (decide (0 ≤ ((List.length begin) : Int)))
 (.test (decide ((0 ≤ (Int.toNat ((List.length begin) : Int))) ∧ (((Int.toNat ((List.length begin) : Int)) = (Int.toNat ((List.length begin) : Int))) ∧ ((Int.toNat ((List.length begin) : Int)) ≤ (List.length begin)))))
 (.test (decide ((0 ≤ z0.2.2.2) ∧ (z0.2.2.2 < ((List.length z0.2.2.1) : Int))))
 (.sub (z0.2.2.1[(0 + (Int.toNat z0.2.2.2))]?) fun z1 =>
 (.test (decide (1 ≤ (List.length (List.set (List.replicate 1 ((0 : Int), (0 : Int))) 0 (z1.1, z1.2)))))
 (.test (decide (¬ (((List.length (win (List.set (List.replicate 1 ((0 : Int), (0 : Int))) 0 (z1.1, z1.2)) 0 1)) = 0) ∧ ((List.length (win begin 0 ((Int.toNat ((List.length begin) : Int)) - 0))) ≠ 0))))
 (.test (decide ((2 * (((List.length (win begin 0 ((Int.toNat ((List.length begin) : Int)) - 0))) + (List.length (win (List.set (List.replicate 1 ((0 : Int), (0 : Int))) 0 (z1.1, z1.2)) 0 1))) * (16 + 1))) ≤ 140737488355328))
 (.test (decide ((0 + ((List.length (win begin 0 ((Int.toNat ((List.length begin) : Int)) - 0))) + (List.length (win (List.set (List.replicate 1 ((0 : Int), (0 : Int))) 0 (z1.1, z1.2)) 0 1)))) ≤ (List.length ((win begin 0 ((Int.toNat ((List.length begin) : Int)) - 0)) ++ (win (List.set (List.replicate 1 ((0 : Int), (0 : Int))) 0 (z1.1, z1.2)) 0 1)))))
 (.test (decide ((0 = 0) ∧ ((List.length r1_r) = (List.length r1_r))))
 (.test (decide ((0 = 0) ∧ ((List.length z0.2.2.1) = (List.length z0.2.2.1))))
 (.sub (recv (((win ((win begin 0 ((Int.toNat ((List.length begin) : Int)) - 0)) ++ (win (List.set (List.replicate 1 ((0 : Int), (0 : Int))) 0 (z1.1, z1.2)) 0 1)) 0 ((List.length (win begin 0 ((Int.toNat ((List.length begin) : Int)) - 0))) + (List.length (win (List.set (List.replicate 1 ((0 : Int), (0 : Int))) 0 (z1.1, z1.2)) 0 1)))), ((w64 (z0.2.2.2 + 1)), ((), ((), ((), ()))))), (r0_0, ((), (r1_r, ((), (z0.2.2.1, ()))))))) fun z2 =>
 (.test (decide ((0 = 0) ∧ ((List.length z2.2.2.2.1) = (List.length z2.2.2.2.1))))
 (.test (decide ((0 = 0) ∧ ((List.length z2.2.2.2.2.2.1) = (List.length z2.2.2.2.2.2.1))))
 (.ret (Sum.inl ((begin, ((), ((), ()))), (z2.2.1, ((), (z2.2.2.2.1, ((), (z2.2.2.2.2.2.1, ((), (w64 (z0.2.2.2 + 1)))))))))))
 .fail)
 .fail))
 .fail)
 .fail)
 .fail)
 .fail)
 .fail)
 .fail))
 .fail)
 .fail)
 .fail)
 .fail)
 (.test (decide ((0 = 0) ∧ ((List.length r1_r) = (List.length r1_r))))
 (.test (decide ((0 = 0) ∧ ((List.length z0.2.2.1) = (List.length z0.2.2.1))))
 (.ret (Sum.inl ((begin, ((), ((), ()))), (r0_0, ((), (r1_r, ((), (z0.2.2.1, ((), (w64 (z0.2.2.2 + 1)))))))))))
 .fail)
 .fail)))
 .fail)
 (.test (decide ((0 = 0) ∧ ((List.length r1_r) = (List.length r1_r))))
 (.test (decide ((0 = 0) ∧ ((List.length t4_r) = (List.length t4_r))))
 (.ret (Sum.inr ((), (r0_0, ((), (r1_r, ((), (t4_r, ()))))))))
 .fail)
 .fail))
noncomputable def F22_L3 (recv : ((List ((Int × Int)) × Int × Unit × Unit × Unit × Unit) × (Int × Unit × List (List ((Int × Int))) × Unit × List ((Int × Int)) × Unit)) → Option (Unit × (Int × Unit × List (List ((Int × Int))) × Unit × List ((Int × Int)) × Unit))) (v : ((List ((Int × Int)) × Unit × Unit × Unit) × (Int × Unit × List (List ((Int × Int))) × Unit × List ((Int × Int)) × Unit × Int))) : Option (Unit × (Int × Unit × List (List ((Int × Int))) × Unit × List ((Int × Int)) × Unit)) := loopO (fun v => (F22_L3_step recv v).run) v

noncomputable def F22_t (recv : ((List ((Int × Int)) × Int × Unit × Unit × Unit × Unit) × (Int × Unit × List (List ((Int × Int))) × Unit × List ((Int × Int)) × Unit)) → Option (Unit × (Int × Unit × List (List ((Int × Int))) × Unit × List ((Int × Int)) × Unit))) : ((List ((Int × Int)) × Int × Unit × Unit × Unit × Unit) × (Int × Unit × List (List ((Int × Int))) × Unit × List ((Int × Int)) × Unit)) → T (Unit × (Int × Unit × List (List ((Int × Int))) × Unit × List ((Int × Int)) × Unit)) := fun ((begin, from', (), (), (), ()), (t2_0, (), t3_r, (), t4_r, ())) =>
 (.test (((List.length begin) : Int) == (w64 (t2_0 - 3)))
 (.sub (F21 begin) fun z0 =>
 (.test (decide ((0 + (List.length z0.2)) ≤ (List.length z0.2)))
 (.test (decide (1 ≤ (List.length (List.set (List.replicate 1 ([] : List (Int × Int))) 0 (win z0.2 0 (List.length z0.2))))))
 (.test (decide ((0 + (List.length t3_r)) ≤ (List.length t3_r)))
 (.test (decide ((2 * (((List.length t3_r) + (List.length (win (List.set (List.replicate 1 ([] : List (Int × Int))) 0 (win z0.2 0 (List.length z0.2))) 0 1))) * (24 + 1))) ≤ 140737488355328))
 (.test (decide ((0 = 0) ∧ (((List.length t3_r) + (List.length (win (List.set (List.replicate 1 ([] : List (Int × Int))) 0 (win z0.2 0 (List.length z0.2))) 0 1))) = (List.length ((win t3_r 0 (List.length t3_r)) ++ (win (List.set (List.replicate 1 ([] : List (Int × Int))) 0 (win z0.2 0 (List.length z0.2))) 0 1))))))
 (.test (decide ((0 = 0) ∧ ((List.length t4_r) = (List.length t4_r))))
 (.ret ((), (t2_0, ((), (((win t3_r 0 (List.length t3_r)) ++ (win (List.set (List.replicate 1 ([] : List (Int × Int))) 0 (win z0.2 0 (List.length z0.2))) 0 1)), ((), (t4_r, ())))))))
 .fail)
 .fail)
 .fail)
 .fail)
 .fail)
 .fail))
 (.test (decide ((0 = 0) ∧ ((List.length t3_r) = (List.length t3_r))))
 (.test (decide ((0 = 0) ∧ ((List.length t4_r) = (List.length t4_r))))
 (.sub (F22_L3 recv ((begin, ((), ((), ()))), (t2_0, ((), (t3_r, ((), (t4_r, ((), from')))))))) fun z1 =>
 (.test (decide ((0 = 0) ∧ ((List.length z1.2.2.2.1) = (List.length z1.2.2.2.1))))
 (.test (decide ((0 = 0) ∧ ((List.length z1.2.2.2.2.2.1) = (List.length z1.2.2.2.2.2.1))))
 (.ret ((), (z1.2.1, ((), (z1.2.2.2.1, ((), (z1.2.2.2.2.2.1, ())))))))
 .fail)
 .fail))
 .fail)
 .fail))
noncomputable def F22_f (recv : ((List ((Int × Int)) × Int × Unit × Unit × Unit × Unit) × (Int × Unit × List (List ((Int × Int))) × Unit × List ((Int × Int)) × Unit)) → Option (Unit × (Int × Unit × List (List ((Int × Int))) × Unit × List ((Int × Int)) × Unit))) (v : ((List ((Int × Int)) × Int × Unit × Unit × Unit × Unit) × (Int × Unit × List (List ((Int × Int))) × Unit × List ((Int × Int)) × Unit))) : Option (Unit × (Int × Unit × List (List ((Int × Int))) × Unit × List ((Int × Int)) × Unit)) := (F22_t recv v).run
noncomputable def F22 : ((List ((Int × Int)) × Int × Unit × Unit × Unit × Unit) × (Int × Unit × List (List ((Int × Int))) × Unit × List ((Int × Int)) × Unit)) → Option (Unit × (Int × Unit × List (List ((Int × Int))) × Unit × List ((Int × Int)) × Unit)) := recF F22_f
noncomputable def F22_E (recv : ((List ((Int × Int)) × Int × Unit × Unit × Unit × Unit) × (Int × Unit × List (List ((Int × Int))) × Unit × List ((Int × Int)) × Unit)) → Option (Unit × (Int × Unit × List (List ((Int × Int))) × Unit × List ((Int × Int)) × Unit))) : TEnv := (((E0.add1 n_F21 F21_sh F21_fo F21).add1 n_F15 F1_sh F1_fo F1).add1 n_F22 F22_sh F22_fo recv)
theorem F22_Eok (recv : ((List ((Int × Int)) × Int × Unit × Unit × Unit × Unit) × (Int × Unit × List (List ((Int × Int))) × Unit × List ((Int × Int)) × Unit)) → Option (Unit × (Int × Unit × List (List ((Int × Int))) × Unit × List ((Int × Int)) × Unit))) (hrec : FOK Tryz.prog n_F22 F22_sh F22_fo recv) : (F22_E recv).OK := (((E0ok.add1 F21_ok).add1 F1_ok).add1 hrec)
noncomputable def F22_told (recv : ((List ((Int × Int)) × Int × Unit × Unit × Unit × Unit) × (Int × Unit × List (List ((Int × Int))) × Unit × List ((Int × Int)) × Unit)) → Option (Unit × (Int × Unit × List (List ((Int × Int))) × Unit × List ((Int × Int)) × Unit))) : Nat → Option SealT := fun id => if id = 3 then some (LSh.told F22_L3_sh 6 (F22_L3_step recv)) else none
theorem F22_L3_ok (recv : ((List ((Int × Int)) × Int × Unit × Unit × Unit × Unit) × (Int × Unit × List (List ((Int × Int))) × Unit × List ((Int × Int)) × Unit)) → Option (Unit × (Int × Unit × List (List ((Int × Int))) × Unit × List ((Int × Int)) × Unit))) (hrec : FOK Tryz.prog n_F22 F22_sh F22_fo recv) : ToldOK Tryz.prog 6 (loopAt (bodyOf fn_F22) [0]) (LSh.told F22_L3_sh 6 (F22_L3_step recv)) :=
  loop_ok (E := F22_E recv) (F22_Eok recv hrec) (told := F22_told recv) (l := F22_L3_sh) (step := F22_L3_step recv) (loopsOK_of (ls := []) (by kernel_rfl) trivial) (by kernel_rfl) (fun v => by kernel_rfl)
theorem F22_okr (recv : ((List ((Int × Int)) × Int × Unit × Unit × Unit × Unit) × (Int × Unit × List (List ((Int × Int))) × Unit × List ((Int × Int)) × Unit)) → Option (Unit × (Int × Unit × List (List ((Int × Int))) × Unit × List ((Int × Int)) × Unit))) (hrec : FOK Tryz.prog n_F22 F22_sh F22_fo recv) : FOK Tryz.prog n_F22 F22_sh F22_fo (F22_f recv) :=
  fn_ok (E := F22_E recv) (F22_Eok recv hrec) (told := F22_told recv) (fl := []) (c := bodyOf fn_F22) (s := F22_sh) (l := F22_fo) (tree := F22_t recv) fnat_F22 (by kernel_rfl) (by kernel_rfl) (by kernel_rfl) (loopsOK_of (ls := [loopAt (bodyOf fn_F22) [0]]) (by kernel_rfl) ⟨.inr ⟨_, by kernel_rfl, F22_L3_ok recv hrec⟩, trivial⟩) (fun v => by kernel_rfl)
theorem F22_ok : FOK Tryz.prog n_F22 F22_sh F22_fo F22 := FOK.rec (fun F h => F22_okr F h) recLim

theorem contains_look (t : List Dg) (i : Nat) (b : List Dg) (hi : i < t.length) (hb : b.length < 1000000) :
    F1 ((b, ((), ())), ((), (t, (i : Int)))) = some (b.any (crossD (gD t i)), ((), (t, (i : Int)))) := by
  have hc : ∀ e : Dg, F18 ((e, ((), ())), ((), (t, (i : Int)))) = some (crossD (gD t i) e, ((), (t, (i : Int)))) := by
    intro e
    obtain ⟨e0, e1⟩ := e
    have c0 : (0 : Int) ≤ (i : Int) ∧ (i : Int) < (t.length : Int) := by omega
    simp only [F18, F18_t, T.run, c0, and_self, decide_true, if_true, Int.toNat_natCast, Nat.zero_add, gD_some hi, Option.bind_some, F88_eq]
  have h := loop_find (step := fun v => (F3_L2_step v).run) (xs := b) (crossD (gD t i)) (fun k => ((b, (((), ()), ((b.length : Int), (k : Int)))), ((), (t, (i : Int))))) (fun k => .inl ((k : Int), ((), (t, (i : Int))))) (.inr ((), ((), (t, (i : Int)))))
    (fun k x hx => by
      have hlt := getElem?_lt hx
      have h1 : (k : Int) < (b.length : Int) := by omega
      have h2 : (0 : Int) ≤ k ∧ (k : Int) < (b.length : Int) := by omega
      simp only [F3_L2_step, T.run, Int.toNat_natCast, hx, Option.bind_some, h1, h2, decide_true, if_true, and_self, true_and, hc]
      rw [w64_id (z := (k : Int) + 1) (by omega) (by omega)]
      cases hv : crossD (gD t i) x <;> simp)
    (by simp [F3_L2_step, T.run])
  rw [show ((0 : Nat) : Int) = 0 from rfl] at h
  have hi' : F3 ((b, ((), ())), ((), (t, (i : Int)))) = some (idxI (crossD (gD t i)) b, ((), (t, (i : Int)))) := by
    simp only [F3, F3_t, T.run, F3_L2, true_and, decide_true, if_true]
    rw [h]
    simp only [idxI]
    cases hf : b.findIdx? (crossD (gD t i)) <;> simp [Sum.isLeft]
  simp only [F1, F1_t, T.run, true_and, decide_true, if_true, hi', Option.bind_some, idxI_ge]
theorem i_look_loop (n : Nat) (t b : List Dg) (recv : _ → Option _) (hn : 3 ≤ n ∧ n ≤ 9) (ht : t.length ≤ 27) (hb : b.length < 1000) :
    ∀ (m i : Nat) (out : List (List Dg)), i + m = t.length → out.length + 2 ^ m ≤ 1000000000 →
    (∀ (j : Nat) (out : List (List Dg)), i ≤ j → j < t.length → out.length + 2 ^ (t.length - (j + 1)) ≤ 1000000000 →
      recv ((b ++ [gD t j], (((j + 1 : Nat) : Int), ((), ((), ((), ()))))), ((n : Int), ((), (out, ((), (t, ()))))) ) = some ((), ((n : Int), ((), (out ++ lookL (n - 3) (t.drop (j + 1)) (b ++ [gD t j]), ((), (t, ()))))))) →
    F22_L3 recv ((b, ((), ((), ()))), ((n : Int), ((), (out, ((), (t, ((), (i : Int)))))))) = some ((), ((n : Int), ((), (out ++ goL (n - 3) (t.drop i) b, ((), (t, ()))))))
  | 0, i, out, hi, ho, hr => by
    have : i = t.length := by omega
    subst this
    rw [List.drop_length]
    simp only [F22_L3, goL, List.append_nil]
    exact loopO_done (by simp [F22_L3_step, T.run])
  | m + 1, i, out, hi, ho, hr => by
    have hlt : i < t.length := by omega
    have c0 : (i : Int) < (t.length : Int) := by omega
    have w1 : w64 ((i : Int) + 1) = ((i + 1 : Nat) : Int) := by rw [w64_id (by omega) (by omega)]; omega
    have hp : 2 ^ (m + 1) = 2 ^ m + 2 ^ m := by rw [Nat.pow_succ]; omega
    have hp0 : 1 ≤ 2 ^ m := Nat.one_le_two_pow
    have hm : m = t.length - (i + 1) := by omega
    rw [drop_gD hlt, goL_cons]
    have hcont := contains_look t i b hlt (by omega)
    cases hf : b.any (crossD (gD t i)) with
    | true =>
      have ih := i_look_loop n t b recv hn ht hb m (i + 1) out (by omega) (by omega) (fun j o h1 h2 h3 => hr j o (by omega) h2 h3)
      have hfr : freeD (gD t i) b = false := by unfold freeD; rw [hf]; rfl
      rw [hfr]
      simp only [Bool.false_eq_true, if_false, List.nil_append]
      simp only [F22_L3] at ih ⊢
      rw [← ih]
      rw [hf] at hcont
      refine loopO_next ?_
      simp only [F22_L3_step, T.run, c0, decide_true, if_true, true_and, hcont, Option.bind_some, Bool.not_true, Bool.false_eq_true, if_false, w1]
    | false =>
      have hfr : freeD (gD t i) b = true := by unfold freeD; rw [hf]; rfl
      have hrec := hr i out (Nat.le_refl _) hlt (by rw [← hm]; omega)
      have hll : (lookL (n - 3) (t.drop (i + 1)) (b ++ [gD t i])).length ≤ 2 ^ m := by
        unfold lookL
        split
        · simp only [List.length_cons, List.length_nil]; exact Nat.one_le_two_pow
        · have := goL_len (n - 3) (t.drop (i + 1)) (b ++ [gD t i])
          rwa [List.length_drop, ← hm] at this
      have ih := i_look_loop n t b recv hn ht hb m (i + 1) (out ++ lookL (n - 3) (t.drop (i + 1)) (b ++ [gD t i])) (by omega) (by rw [List.length_append]; omega) (fun j o h1 h2 h3 => hr j o (by omega) h2 h3)
      rw [hfr]
      simp only [if_true]
      rw [← List.append_assoc]
      simp only [F22_L3] at ih ⊢
      rw [← ih]
      rw [hf] at hcont
      refine loopO_next ?_
      have c1 : (0 : Int) ≤ (b.length : Int) := by omega
      have c2 : (0 : Int) ≤ (i : Int) ∧ (i : Int) < (t.length : Int) := by omega
      have c3 : 2 * ((b.length + 1) * (16 + 1)) ≤ 140737488355328 := by omega
      have hl1 : (b ++ [gD t i]).length = b.length + 1 := by simp
      have hw : win (b ++ [gD t i]) 0 (b.length + 1) = b ++ [gD t i] := by rw [← hl1]; exact win_all _
      simp only [F22_L3_step, T.run, c0, c1, c2, decide_true, if_true, true_and, and_self, hcont, Option.bind_some, Bool.not_false, Int.toNat_natCast, Nat.zero_le, Nat.le_refl, Nat.zero_add, gD_some hlt, Nat.sub_zero, win_all, win_one, List.length_cons, List.length_nil, c3, hl1, hw, w1, hrec]
      simp
theorem i_look_eq (n : Nat) (t : List Dg) (hn : 3 ≤ n ∧ n ≤ 9) (ht : t.length ≤ 27) : ∀ (k i : Nat) (b : List Dg) (out : List (List Dg)), i ≤ t.length → t.length - i < k → b.length + (t.length - i) < 100 → out.length + 2 ^ (t.length - i) ≤ 1000000000 →
    recN F22_f k ((b, ((i : Int), ((), ((), ((), ()))))), ((n : Int), ((), (out, ((), (t, ()))))) ) = some ((), ((n : Int), ((), (out ++ lookL (n - 3) (t.drop i) b, ((), (t, ()))))))
  | 0, i, b, out, hi, hk, hb, ho => absurd hk (Nat.not_lt_zero _)
  | k + 1, i, b, out, hi, hk, hb, ho => by
    show F22_f (recN F22_f k) _ = _
    have hp : 1 ≤ 2 ^ (t.length - i) := Nat.one_le_two_pow
    have w0 : w64 ((n : Int) - 3) = ((n - 3 : Nat) : Int) := by rw [w64_id (by omega) (by omega)]; omega
    simp only [F22_f, F22_t, T.run, w0]
    by_cases hl : b.length = n - 3
    · have hc : F21 b = some ((), b) := by
        unfold F21
        rw [if_pos]
        exact ⟨by unfold maxLen; omega, by omega⟩
      have e : ((b.length : Int) == ((n - 3 : Nat) : Int)) = true := by simp; omega
      have c1 : 2 * ((out.length + 1) * (24 + 1)) ≤ 140737488355328 := by omega
      have hone : win (List.set (List.replicate 1 ([] : List Dg)) 0 b) 0 1 = [b] := rfl
      unfold lookL
      rw [if_pos hl]
      simp only [e, if_true, hc, Option.bind_some, Nat.zero_add, Nat.le_refl, decide_true, win_all, hone, List.length_cons, List.length_nil, c1, List.length_set, List.length_replicate, List.length_append, true_and]
    · have e : ((b.length : Int) == ((n - 3 : Nat) : Int)) = false := by simp; omega
      unfold lookL
      rw [if_neg hl]
      have h3 := i_look_loop n t b (recN F22_f k) hn ht (by omega) (t.length - i) i out (by omega) ho (fun j o h1 h2 h3 => by
        exact i_look_eq n t hn ht k (j + 1) (b ++ [gD t j]) o (by omega) (by omega) (by simp; omega) h3)
      simp only [e, Bool.false_eq_true, if_false, true_and, decide_true, if_true, h3, Option.bind_some]


def F30_sh : FSh := ⟨[(.one (.si .i64))], []⟩

def F30_fo : List FO := [⟨[(.one (.rw 0 0))], [(.row 0 (.list true (.pair (.int .i64) (.int .i64))))]⟩]
noncomputable def F30_t : Int → T (Unit × List (List ((Int × Int)))) := fun n =>
 (.sub (F54 n) fun z0 =>
 (.test (decide ((0 = 0) ∧ (0 = (List.length (List.replicate 0 ([] : List (Int × Int)))))))
 (.test (decide ((0 = 0) ∧ ((List.length z0.2) = (List.length z0.2))))
 (.sub (F22 ((([] : List (Int × Int)), ((0 : Int), ((), ((), ((), ()))))), (n, ((), ((List.replicate 0 ([] : List (Int × Int))), ((), (z0.2, ()))))))) fun z1 =>
 (.test (decide ((0 = 0) ∧ ((List.length z1.2.2.2.1) = (List.length z1.2.2.2.1))))
 (.ret ((), z1.2.2.2.1))
 .fail))
 .fail)
 .fail))
noncomputable def F30 (v : Int) : Option (Unit × List (List ((Int × Int)))) := (F30_t v).run
noncomputable def F30_E : TEnv := ((E0.add1 n_F54 F54_sh F54_fo F54).add1 n_F22 F22_sh F22_fo F22)
theorem F30_Eok : (F30_E).OK := ((E0ok.add1 F54_ok).add1 F22_ok)
noncomputable def F30_told : Nat → Option SealT := fun id => none
theorem F30_ok : FOK Tryz.prog n_F30 F30_sh F30_fo F30 :=
  fn_ok (E := F30_E) (F30_Eok) (told := F30_told) (fl := []) (c := bodyOf fn_F30) (s := F30_sh) (l := F30_fo) (tree := F30_t) fnat_F30 (by kernel_rfl) (by kernel_rfl) (by kernel_rfl) (loopsOK_of (ls := []) (by kernel_rfl) trivial) (fun v => by kernel_rfl)

theorem F30_eq (n : Nat) (hn : 3 ≤ n ∧ n ≤ 9) : F30 (n : Int) = some ((), allT n) := by
  have hd := dgL_len n hn.2
  have hp : 2 ^ ((dgL n).length - 0) ≤ 2 ^ 27 := Nat.pow_le_pow_right (by omega) (by omega)
  have h27 : (2 : Nat) ^ 27 = 134217728 := by decide
  have h := i_look_eq n (dgL n) hn hd recLim 0 [] [] (by omega) (by unfold recLim; omega) (by simp; omega) (by simp only [List.length_nil]; omega)
  rw [List.drop_zero, List.nil_append, Int.natCast_zero] at h
  simp only [F30, F30_t, T.run, F54_eq n hn.2, Option.bind_some, List.replicate_zero, List.length_nil, true_and, decide_true, if_true]
  have h' : F22 ((([] : List (Int × Int)), ((0 : Int), ((), ((), ((), ()))))), ((n : Int), ((), (([] : List (List (Int × Int))), ((), (dgL n, ())))))) = some ((), ((n : Int), ((), (lookL (n - 3) (dgL n) [], ((), (dgL n, ())))))) := h
  rw [h']
  rfl


def F10_sh : FSh := ⟨[.one (.rw 0 0), .one (.fn n_F35)], [.row 0 (.list true (.int .i64))]⟩
def F10_fo : List FO := [⟨[], [.row 0 (.list true (.int .i64))]⟩]
def F10 (v : (Unit × Unit) × List (List Int)) : Option (Unit × List (List Int)) := if v.2.length < 4611686018427387904 ∧ v.2.all (fun l => decide (l.length ≤ 9223372036854775807)) = true then some ((), sortLL v.2) else none
def F10_ren : Shelf.Ren := ⟨fun k => if k = 14 then 258 else if k = 15 then 227 else if k = 20 then 275 else if k = 21 then 276 else if k = 22 then 277 else if k = 23 then 278 else if k = 24 then 279 else if k = 25 then 280 else if k = 26 then 281 else if k = 27 then 282 else if k = 28 then 251 else if k = 29 then 252 else if k = 46 then 287 else if k = 47 then 271 else if k = 48 then 272 else if k = 49 then 288 else if k = 50 then 289 else if k = 57 then 291 else 235, fun t => if t = 0 then 0 else if t = 4 then 4 else if t = 5 then 5 else if t = 9 then 9 else if t = 22 then 26 else if t = 24 then 24 else if t = 25 then 177 else if t = 39 then 170 else if t = 45 then 183 else if t = 46 then 184 else if t = 50 then 29 else if t = 53 then 190 else if t = 55 then 119 else if t = 66 then 202 else if t = 70 then 206 else if t = 76 then 215 else if t = 77 then 93 else 3, fun x => x⟩
theorem F10_lay : SlLaysF.n6 Tryz.prog F10_ren :=
  { mixed := by kernel_rfl, f6 := ⟨"slices.SortFunc[[][]int,[]int]", by kernel_rfl, by kernel_rfl⟩, f14 := ⟨"slices.pdqsortCmpFunc[[]int]", by kernel_rfl, by kernel_rfl⟩, f15 := by kernel_rfl, f20 := ⟨"slices.insertionSortCmpFunc[[]int]", by kernel_rfl, by kernel_rfl⟩, f21 := ⟨"slices.heapSortCmpFunc[[]int]", by kernel_rfl, by kernel_rfl⟩, f22 := ⟨"slices.breakPatternsCmpFunc[[]int]", by kernel_rfl, by kernel_rfl⟩, f23 := ⟨"slices.choosePivotCmpFunc[[]int]", by kernel_rfl, by kernel_rfl⟩, f24 := ⟨"slices.reverseRangeCmpFunc[[]int]", by kernel_rfl, by kernel_rfl⟩, f25 := ⟨"slices.partialInsertionSortCmpFunc[[]int]", by kernel_rfl, by kernel_rfl⟩, f26 := ⟨"slices.partitionEqualCmpFunc[[]int]", by kernel_rfl, by kernel_rfl⟩, f27 := ⟨"slices.partitionCmpFunc[[]int]", by kernel_rfl, by kernel_rfl⟩, f28 := by kernel_rfl, f29 := by kernel_rfl, f46 := ⟨"slices.siftDownCmpFunc[[]int]", by kernel_rfl, by kernel_rfl⟩, f47 := by kernel_rfl, f48 := by kernel_rfl, f49 := ⟨"slices.medianAdjacentCmpFunc[[]int]", by kernel_rfl, by kernel_rfl⟩, f50 := ⟨"slices.medianCmpFunc[[]int]", by kernel_rfl, by kernel_rfl⟩, f57 := ⟨"slices.order2CmpFunc[[]int]", by kernel_rfl, by kernel_rfl⟩, t0 := by kernel_rfl, a0 := fun w => by kernel_rfl, z0 := fun w => by kernel_rfl, v0 := fun w => by kernel_rfl, t3 := by kernel_rfl, a3 := fun w => by kernel_rfl, z3 := fun w => by kernel_rfl, v3 := fun w => by kernel_rfl, t4 := by kernel_rfl, a4 := fun w => by kernel_rfl, z4 := fun w => by kernel_rfl, v4 := fun w => by kernel_rfl, t5 := by kernel_rfl, a5 := fun w => by kernel_rfl, z5 := fun w => by kernel_rfl, v5 := fun w => by kernel_rfl, t9 := by kernel_rfl, a9 := fun w => by kernel_rfl, z9 := fun w => by kernel_rfl, v9 := fun w => by kernel_rfl, t22 := by kernel_rfl, a22 := fun w => by kernel_rfl, z22 := fun w => by kernel_rfl, v22 := fun w => by kernel_rfl, a24 := fun w => by kernel_rfl, z24 := fun w => by kernel_rfl, t25 := by kernel_rfl, a25 := fun w => by kernel_rfl, z25 := fun w => by kernel_rfl, v25 := fun w => by kernel_rfl, t39 := by kernel_rfl, a39 := fun w => by kernel_rfl, z39 := fun w => by kernel_rfl, v39 := fun w => by kernel_rfl, t45 := by kernel_rfl, a45 := fun w => by kernel_rfl, z45 := fun w => by kernel_rfl, v45 := fun w => by kernel_rfl, t46 := by kernel_rfl, a46 := fun w => by kernel_rfl, z46 := fun w => by kernel_rfl, v46 := fun w => by kernel_rfl, t50 := by kernel_rfl, a50 := fun w => by kernel_rfl, z50 := fun w => by kernel_rfl, v50 := fun w => by kernel_rfl, t53 := by kernel_rfl, a53 := fun w => by kernel_rfl, z53 := fun w => by kernel_rfl, v53 := fun w => by kernel_rfl, t55 := by kernel_rfl, a55 := fun w => by kernel_rfl, z55 := fun w => by kernel_rfl, v55 := fun w => by kernel_rfl, t66 := by kernel_rfl, a66 := fun w => by kernel_rfl, z66 := fun w => by kernel_rfl, v66 := fun w => by kernel_rfl, t70 := by kernel_rfl, a70 := fun w => by kernel_rfl, z70 := fun w => by kernel_rfl, v70 := fun w => by kernel_rfl, t76 := by kernel_rfl, a76 := fun w => by kernel_rfl, z76 := fun w => by kernel_rfl, v76 := fun w => by kernel_rfl, t77 := by kernel_rfl, a77 := fun w => by kernel_rfl, z77 := fun w => by kernel_rfl, v77 := fun w => by kernel_rfl }
def F10_cr : Shelf.Ren := ⟨fun k => if k = 122 then 211 else 229, fun t => if t = 4 then 4 else 3, fun x => x⟩
theorem F10_cl : Lays.n122 Tryz.prog F10_cr := { mixed := by kernel_rfl, f122 := by kernel_rfl, f215 := by kernel_rfl, t3 := by kernel_rfl, a3 := fun w => by kernel_rfl, z3 := fun w => by kernel_rfl, v3 := fun w => by kernel_rfl, t4 := by kernel_rfl, a4 := fun w => by kernel_rfl, z4 := fun w => by kernel_rfl, v4 := fun w => by kernel_rfl }
theorem F10_c1 (x y : Int) (w : World) : Calls Tryz.prog 211 #[.int .i64 x, .int .i64 y] w fun e w' => e = .returned (.int .i64 (Lib.compareInt x y)) ∧ w' = w := Any.cmp_Compare_int F10_cl x y w
theorem F10_dr {xs ys : List Int} : ∀ {k : Nat}, (∀ j, j < k → xs.getD j 0 = ys.getD j 0) → k ≤ xs.length → k ≤ ys.length → cmpL xs ys = cmpL (xs.drop k) (ys.drop k)
  | 0, _, _, _ => rfl
  | k + 1, h, h1, h2 => by
    match xs, ys, h, h1, h2 with
    | x :: xs, y :: ys, h, h1, h2 =>
      have h0 := h 0 (by omega)
      simp only [List.getD_cons_zero] at h0
      subst h0
      have ih := F10_dr (xs := xs) (ys := ys) (k := k) (fun j hj => by simpa using h (j + 1) (by omega)) (by simpa using h1) (by simpa using h2)
      simpa [cmpL] using ih
set_option maxHeartbeats 2000000 in
set_option maxRecDepth 100000 in
theorem F10_cw (a1 a2 : Option Addr) (c1 c2 b1 o1 b2 o2 n m : Nat) (xs ys : List Int) (w : World) (hn : n = xs.length) (hm : m = ys.length) (hx : n ≤ 9223372036854775807) (hy : m ≤ 9223372036854775807) (h1 : 0 < n → a1 = some ⟨b1, o1, none⟩) (h2 : 0 < m → a2 = some ⟨b2, o2, none⟩)
    (hc1 : ∀ j, j < n → w.cell? ⟨b1, o1 + j, none⟩ = some (.int .i64 (xs.getD j 0))) (hc2 : ∀ j, j < m → w.cell? ⟨b2, o2 + j, none⟩ = some (.int .i64 (ys.getD j 0))) :
    Calls Tryz.prog 236 #[.slice a1 n c1, .slice a2 m c2] w fun e w' => e = .returned (.int .i64 (cmpL xs ys)) ∧ ∃ q, w' = w.drewN q := by
  have mixed : Tryz.prog.follows .mixedOrders = true := by kernel_rfl
  have t0 : Tryz.prog.underlying 0 = some (TypeDesc.tuple #[]) := by kernel_rfl
  have a0 : ∀ w, (isAgg 0).run Tryz.prog w = .ok false w := fun w => by kernel_rfl
  have z0 : ∀ w, (Go.sizeOf 0).run Tryz.prog w = .ok 1 w := fun w => by kernel_rfl
  have v0 : ∀ w, (zeroValue 0).run Tryz.prog w = .ok (Value.tuple #[]) w := fun w => by kernel_rfl
  have t3 : Tryz.prog.underlying 3 = some (TypeDesc.int IntKind.i64) := by kernel_rfl
  have a3 : ∀ w, (isAgg 3).run Tryz.prog w = .ok false w := fun w => by kernel_rfl
  have z3 : ∀ w, (Go.sizeOf 3).run Tryz.prog w = .ok 1 w := fun w => by kernel_rfl
  have v3 : ∀ w, (zeroValue 3).run Tryz.prog w = .ok (Value.int IntKind.i64 0) w := fun w => by kernel_rfl
  have t4 : Tryz.prog.underlying 4 = some (TypeDesc.bool) := by kernel_rfl
  have a4 : ∀ w, (isAgg 4).run Tryz.prog w = .ok false w := fun w => by kernel_rfl
  have z4 : ∀ w, (Go.sizeOf 4).run Tryz.prog w = .ok 1 w := fun w => by kernel_rfl
  have v4 : ∀ w, (zeroValue 4).run Tryz.prog w = .ok (Value.bool false) w := fun w => by kernel_rfl
  have t22 : Tryz.prog.underlying 24 = some (TypeDesc.slice 3) := by kernel_rfl
  have a22 : ∀ w, (isAgg 24).run Tryz.prog w = .ok false w := fun w => by kernel_rfl
  have z22 : ∀ w, (Go.sizeOf 24).run Tryz.prog w = .ok 1 w := fun w => by kernel_rfl
  have v22 : ∀ w, (zeroValue 24).run Tryz.prog w = .ok (Value.slice none 0 0) w := fun w => by kernel_rfl
  have e104 : ∀ args w, (callFunc 211 args).run Tryz.prog w = .ok (.enter 211 args) w := enters_of Tryz.func211 (by kernel_rfl) rfl
  have K1 : Aside (∀ j, j < n → w.cell? ⟨b1, o1 + j, none⟩ = some (.int .i64 (xs.getD j 0))) := hc1
  have K2 : Aside (∀ j, j < m → w.cell? ⟨b2, o2 + j, none⟩ = some (.int .i64 (ys.getD j 0))) := hc2
  have KN : Aside (n = xs.length ∧ m = ys.length) := ⟨hn, hm⟩
  clear hc1 hc2 hn hm
  go_enter Tryz.func236, Tryz.ntmps236
  go_wp2
  go_loopg [11] n (fun g s11 wr => ∃ k q : Nat, k ≤ n ∧ k ≤ m ∧ n - k ≤ g ∧ s11 = .int .i64 k ∧ wr = w.drewN q ∧ Aside (∀ j, j < k → xs.getD j 0 = ys.getD j 0))
  case atStart => exact ⟨0, 0, Nat.zero_le _, Nat.zero_le _, by omega, rfl, rfl, fun j hj => absurd hj (Nat.not_lt_zero _)⟩
  case round =>
    obtain ⟨k, q, hk, hkm, hg, rfl, rfl, heq⟩ := hrel
    by_cases hlt : k < n
    · obtain rfl := h1 (by omega)
      have g1 : w.cell? ⟨b1, o1 + k, none⟩ = some (.int .i64 (xs.getD k 0)) := K1.out k (by omega)
      generalize hxk : xs.getD k 0 = x at g1
      have B : Aside (xs.getD k 0 = x) := hxk
      clear hxk
      by_cases hlm : k < m
      · obtain rfl := h2 (by omega)
        have g2 : w.cell? ⟨b2, o2 + k, none⟩ = some (.int .i64 (ys.getD k 0)) := K2.out k (by omega)
        generalize hyk : ys.getD k 0 = y at g2
        have B2 : Aside (ys.getD k 0 = y) := hyk
        clear hyk
        have hd : cmpL xs ys = if x < y then -1 else if y < x then 1 else cmpL (xs.drop (k + 1)) (ys.drop (k + 1)) := by
          obtain ⟨e1, e2⟩ := KN.out
          rw [F10_dr heq.out (by omega) (by omega), List.drop_eq_getElem_cons (i := k) (l := xs) (by omega), List.drop_eq_getElem_cons (i := k) (l := ys) (by omega)]
          rw [← B.out, ← B2.out, List.getD_eq_getElem?_getD, List.getD_eq_getElem?_getD, List.getElem?_eq_getElem (l := xs) (by omega), List.getElem?_eq_getElem (l := ys) (by omega)]
          rfl
        have D : Aside (cmpL xs ys = if x < y then -1 else if y < x then 1 else cmpL (xs.drop (k + 1)) (ys.drop (k + 1))) := hd
        clear hd
        rcases Int.lt_trichotomy x y with hxy | hxy | hxy
        · have hc : Lib.compareInt x y = -1 := by unfold Lib.compareInt; rw [if_pos hxy]
          have DD : Aside (cmpL xs ys = -1) := by have := D.out; rwa [if_pos hxy] at this
          go_wp2_with fail
          refine (F10_c1 x y _).mono ?_
          rintro e w' ⟨rfl, rfl⟩
          rw [hc]
          go_wp2
          go_ret
          exact ⟨by rw [DD.out]; rfl, q, rfl⟩
        · subst hxy
          have hc : Lib.compareInt x x = 0 := by unfold Lib.compareInt; rw [if_neg (Int.lt_irrefl x), if_neg (Int.lt_irrefl x)]
          go_wp2_with fail
          refine (F10_c1 x x _).mono ?_
          rintro e w' ⟨rfl, rfl⟩
          rw [hc]
          go_wp2
          go_roundg (n - (k + 1))
          case measure => omega
          case rel =>
            refine ⟨k + 1, q, by omega, by omega, by omega, by go_num, rfl, fun j hj => ?_⟩
            by_cases e : j = k
            · subst e
              rw [B.out, B2.out]
            · exact heq.out j (by omega)
        · have hc : Lib.compareInt x y = 1 := by unfold Lib.compareInt; rw [if_neg (by omega), if_pos hxy]
          have DD : Aside (cmpL xs ys = 1) := by have := D.out; rwa [if_neg (by omega), if_pos hxy] at this
          go_wp2_with fail
          refine (F10_c1 x y _).mono ?_
          rintro e w' ⟨rfl, rfl⟩
          rw [hc]
          go_wp2
          go_ret
          exact ⟨by rw [DD.out]; rfl, q, rfl⟩
      · have D0 : cmpL xs ys = 1 := by
          obtain ⟨e1, e2⟩ := KN.out
          have hkm' : k = m := by omega
          rw [F10_dr heq.out (by omega) (by omega), List.drop_eq_getElem_cons (i := k) (l := xs) (by omega), List.drop_of_length_le (l := ys) (by omega)]
          rfl
        have DD : Aside (cmpL xs ys = 1) := D0
        clear D0
        go_wp2_with fail
        go_ret
        exact ⟨by rw [DD.out]; rfl, q, rfl⟩
    · have : k = n := by omega
      subst this
      obtain ⟨e1, e2⟩ := KN.out
      have hd : cmpL xs ys = cmpL [] (ys.drop k) := by
        rw [F10_dr heq.out (by omega) (by omega), List.drop_of_length_le (l := xs) (by omega)]
      by_cases hkm2 : k < m
      · have DD : Aside (cmpL xs ys = -1) := by
          show _ = _
          rw [hd, List.drop_eq_getElem_cons (i := k) (l := ys) (by omega)]
          rfl
        clear hd e1 e2
        go_wp2
        go_ret
        exact ⟨by rw [DD.out]; rfl, q, rfl⟩
      · have DD : Aside (cmpL xs ys = 0) := by
          show _ = _
          rw [hd, List.drop_of_length_le (l := ys) (by omega)]
          rfl
        clear hd e1 e2
        go_wp2
        go_ret
        exact ⟨by rw [DD.out]; rfl, q, rfl⟩

theorem F10_cok : CmpOK Tryz.prog 236 := by
  intro a1 c1 a2 c2 xs ys W hx hy h1 h2
  have split : ∀ (a : Option Addr) (xs : List Int), LInt W a xs → ∃ b o, (0 < xs.length → a = some ⟨b, o, none⟩) ∧ ∀ j, j < xs.length → W.cell? ⟨b, o + j, none⟩ = some (.int .i64 (xs.getD j 0)) := fun a xs h => by
    rcases h with rfl | ⟨b, o, ha, hc⟩
    · exact ⟨0, 0, fun h => absurd h (Nat.lt_irrefl 0), fun j hj => absurd hj (Nat.not_lt_zero j)⟩
    · exact ⟨b, o, fun _ => ha, fun j hj => hc j _ (by rw [List.getD_eq_getElem?_getD, List.getElem?_eq_getElem hj]; rfl)⟩
  obtain ⟨b1, o1, p1, q1⟩ := split a1 xs h1
  obtain ⟨b2, o2, p2, q2⟩ := split a2 ys h2
  exact F10_cw a1 a2 c1 c2 b1 o1 b2 o2 xs.length ys.length xs ys W rfl rfl hx hy p1 p2 q1 q2
theorem F10_ok : FOK Tryz.prog n_F26 F10_sh F10_fo F10 :=
  sortLists_ok ⟨_, fnat_F26, by kernel_rfl, by kernel_rfl⟩ (ρr := F10_ren) rfl F10_lay (enters_of fnat_F35 (by kernel_rfl) rfl) F10_cok

theorem lsL_ltL : ∀ a b : List Int, lsL a b = ltL a b
  | [], [] => rfl
  | [], y :: b => rfl
  | x :: a, [] => rfl
  | x :: a, y :: b => by
    have ih := lsL_ltL a b
    unfold lsL at ih ⊢
    unfold cmpL ltL
    split
    · rfl
    · split
      · rfl
      · exact ih
theorem F10_eq (x : List (List Int)) (h : x.length < 4611686018427387904) (hb : ∀ l ∈ x, l.length ≤ 9223372036854775807) : F10 (((), ()), x) = some ((), sortL x) := by
  unfold F10
  rw [if_pos ⟨h, List.all_eq_true.2 fun l hl => decide_eq_true (hb l hl)⟩]
  have e : sortL x = sortLL x := by
    refine sortLL_unique ((sortL_up x).imp fun {a b} hab => ?_) (sortL_perm x)
    rw [lsL_ltL]
    unfold leL at hab
    simpa using hab
  rw [e]


def F51_sh : FSh := ⟨[(.one (.si .i64))], []⟩

def F51_L3_sh : LSh := ⟨(fun ex => match ex with | .norm => [(0, none), (3, none), (8, none), (9, none), (10, none)] | .exit i => if i = 0 then [(3, none)] else [] | .ret => [(2, none)]), [(0, (.one (.si .i64))), (3, (.one (.rw 0 0))), (8, (.one (.rw 1 0))), (9, (.one (.si .i64))), (10, (.one (.si .i64)))], [(.row 0 (.list true (.int .i64))), (.row 0 (.list true (.pair (.int .i64) (.int .i64))))], [⟨(.exit 0), [(3, (.one (.rw 0 0)))], [(.row 0 (.list true (.int .i64)))]⟩], [], []⟩
noncomputable def F51_L3_step : ((Int × Unit × Unit × Int × Int) × (List (List (Int)) × List (List ((Int × Int))))) → T (((Int × Unit × Unit × Int × Int) × (List (List (Int)) × List (List ((Int × Int))))) ⊕ (Unit × List (List (Int)))) := fun ((n, (), (), t9, t10), (out, t8)) =>
 (.test (decide (t10 < t9))
 (.test (decide ((0 ≤ t10) ∧ (t10 < ((List.length t8) : Int))))
 (.sub (t8[(0 + (Int.toNat t10))]?) fun z0 =>
 (.sub (F85 (n, z0)) fun z1 =>
 (.test (decide ((0 + (List.length z1.2)) ≤ (List.length z1.2)))
 (.test (decide (1 ≤ (List.length (List.set (List.replicate 1 ([] : List (Int))) 0 (win z1.2 0 (List.length z1.2))))))
 (.test (decide ((0 + (List.length out)) ≤ (List.length out)))
 (.test (decide ((2 * (((List.length out) + (List.length (win (List.set (List.replicate 1 ([] : List (Int))) 0 (win z1.2 0 (List.length z1.2))) 0 1))) * 25)) ≤ 140737488355328))
 (.test (decide ((0 = 0) ∧ (((List.length out) + (List.length (win (List.set (List.replicate 1 ([] : List (Int))) 0 (win z1.2 0 (List.length z1.2))) 0 1))) = (List.length ((win out 0 (List.length out)) ++ (win (List.set (List.replicate 1 ([] : List (Int))) 0 (win z1.2 0 (List.length z1.2))) 0 1))))))
 (.test (decide ((0 = 0) ∧ ((List.length t8) = (List.length t8))))
 (.ret (Sum.inl ((n, ((), ((), (t9, (w64 (t10 + 1)))))), (((win out 0 (List.length out)) ++ (win (List.set (List.replicate 1 ([] : List (Int))) 0 (win z1.2 0 (List.length z1.2))) 0 1)), t8))))
 .fail)
 .fail)
 .fail)
 .fail)
 .fail)
 .fail)))
 .fail)
 (.test (decide ((0 = 0) ∧ ((List.length out) = (List.length out))))
 (.ret (Sum.inr ((), out)))
 .fail))
noncomputable def F51_L3 (v : ((Int × Unit × Unit × Int × Int) × (List (List (Int)) × List (List ((Int × Int)))))) : Option (Unit × List (List (Int))) := loopO (fun v => (F51_L3_step v).run) v

def F51_fo : List FO := [⟨[(.one (.rw 0 0))], [(.row 0 (.list true (.int .i64)))]⟩]
noncomputable def F51_t : Int → T (Unit × List (List (Int))) := fun n =>
 (.sub (F30 n) fun z0 =>
 (.test (decide ((0 = 0) ∧ (0 = (List.length (List.replicate 0 ([] : List (Int)))))))
 (.test (decide ((0 = 0) ∧ ((List.length z0.2) = (List.length z0.2))))
 (.sub (F51_L3 ((n, ((), ((), (((List.length z0.2) : Int), (0 : Int))))), ((List.replicate 0 ([] : List (Int))), z0.2))) fun z1 =>
 (.test (decide ((0 = 0) ∧ ((List.length z1.2) = (List.length z1.2))))
 (.sub (F10 (((), ()), z1.2)) fun z2 =>
 (.test (decide ((0 = 0) ∧ ((List.length z1.2) = (List.length z2.2))))
 (.ret ((), z2.2))
 .fail))
 .fail))
 .fail)
 .fail))
noncomputable def F51 (v : Int) : Option (Unit × List (List (Int))) := (F51_t v).run
noncomputable def F51_E : TEnv := (((E0.add1 n_F30 F30_sh F30_fo F30).add1 n_F85 F85_sh F85_fo F85).add1 n_F26 F10_sh F10_fo F10)
theorem F51_Eok : (F51_E).OK := (((E0ok.add1 F30_ok).add1 F85_ok).add1 F10_ok)
noncomputable def F51_told : Nat → Option SealT := fun id => if id = 3 then some (LSh.told F51_L3_sh 0 (F51_L3_step)) else none
theorem F51_L3_ok : ToldOK Tryz.prog 0 (loopAt (bodyOf fn_F51) [0]) (LSh.told F51_L3_sh 0 (F51_L3_step)) :=
  loop_ok (E := F51_E) (F51_Eok) (told := F51_told) (l := F51_L3_sh) (step := F51_L3_step) (loopsOK_of (ls := []) (by kernel_rfl) trivial) (by kernel_rfl) (fun v => by kernel_rfl)
theorem F51_ok : FOK Tryz.prog n_F51 F51_sh F51_fo F51 :=
  fn_ok (E := F51_E) (F51_Eok) (told := F51_told) (fl := []) (c := bodyOf fn_F51) (s := F51_sh) (l := F51_fo) (tree := F51_t) fnat_F51 (by kernel_rfl) (by kernel_rfl) (by kernel_rfl) (loopsOK_of (ls := [loopAt (bodyOf fn_F51) [0]]) (by kernel_rfl) ⟨.inr ⟨_, by kernel_rfl, F51_L3_ok⟩, trivial⟩) (fun v => by kernel_rfl)

theorem F51_rows' (n : Nat) (hn : 3 ≤ n ∧ n ≤ 9) (t : List (List Dg)) (hlen : t.length ≤ 134217728) (ht : ∀ ds ∈ t, ds.length = n - 3 ∧ ∀ d ∈ ds, 0 ≤ d.1 ∧ d.1 < d.2 ∧ d.2 < (n : Int)) :
    F51_L3 (((n : Int), ((), ((), ((t.length : Int), (0 : Int))))), ([], t)) = some ((), t.map (quid n)) := by
  have key : ∀ m k (s : List (List Int)), k + m = t.length → s.length = k → F51_L3 (((n : Int), ((), ((), ((t.length : Int), (k : Int))))), (s, t)) = some ((), s ++ (t.drop k).map (quid n)) := by
    intro m
    induction m with
    | zero =>
      intro k s hk hs
      have : k = t.length := by omega
      subst this
      rw [List.drop_length, List.map_nil, List.append_nil]
      simp only [F51_L3]
      exact loopO_done (by simp [F51_L3_step, T.run])
    | succ m ih =>
      intro k s hk hs
      have hlt : k < t.length := by omega
      have hds := List.getElem?_eq_getElem hlt
      obtain ⟨q1, q2⟩ := ht t[k] (List.getElem_mem hlt)
      have hq := F85_eq n t[k] ⟨by omega, by omega⟩ (by omega) q2
      have ih := ih (k + 1) (s ++ [quid n t[k]]) (by omega) (by simp [hs])
      rw [List.drop_eq_getElem_cons hlt, List.map_cons]
      have e : s ++ quid n t[k] :: (t.drop (k + 1)).map (quid n) = s ++ [quid n t[k]] ++ (t.drop (k + 1)).map (quid n) := by simp
      rw [e]
      simp only [F51_L3] at ih ⊢
      rw [← ih]
      refine loopO_next ?_
      have c0 : (k : Int) < (t.length : Int) := by omega
      have c1 : (0 : Int) ≤ (k : Int) ∧ (k : Int) < (t.length : Int) := by omega
      have w1 : w64 ((k : Int) + 1) = ((k + 1 : Nat) : Int) := by rw [w64_id (by omega) (by omega)]; omega
      have c2 : 2 * ((s.length + 1) * 25) ≤ 140737488355328 := by omega
      generalize quid n t[k] = q at hq
      generalize t[k] = ds at hds hq
      clear ih e ht q1 q2 hlen
      have hone : win (List.set (List.replicate 1 ([] : List Int)) 0 q) 0 1 = [q] := rfl
      have hidx : t[0 + (k : Int).toNat]? = some ds := by rw [Int.toNat_natCast, Nat.zero_add]; exact hds
      simp only [F51_L3_step, T.run_test, T.run_sub, T.run_ret, T.run_fail]
      rw [if_pos (decide_eq_true c0), if_pos (decide_eq_true c1), hidx, Option.bind_some, hq, Option.bind_some]
      simp only [Nat.zero_add, Nat.le_refl, win_all, hone, List.length_cons, List.length_nil, List.length_set, List.length_replicate, c2, w1, List.length_append, decide_true, if_true, and_self]
  have h := key t.length 0 [] (by omega) rfl
  rw [List.drop_zero, List.nil_append, Int.natCast_zero] at h
  exact h
theorem F51_rows (n : Nat) (hn : 3 ≤ n ∧ n ≤ 9) : F51_L3 (((n : Int), ((), ((), (((allT n).length : Int), (0 : Int))))), ([], allT n)) = some ((), (allT n).map (quid n)) :=
  F51_rows' n hn (allT n) (allT_len n hn.2) fun _ h => allT_in hn h
theorem F51_eq (n : Nat) (hn : 3 ≤ n ∧ n ≤ 9) : F51 (n : Int) = some ((), allQ n) := by
  have hlen := allT_len n hn.2
  have hs := F10_eq ((allT n).map (quid n)) (by rw [List.length_map]; omega) (fun l hl => by
    obtain ⟨d, _, rfl⟩ := List.mem_map.1 hl
    rw [quid_length]; omega)
  have hl : ((allT n).map (quid n)).length = (sortL ((allT n).map (quid n))).length := (sortL_perm _).length_eq.symm
  rw [F51, F51_t, T.run_sub, F30_eq n hn, Option.bind_some, T.run_test, if_pos (by rfl), T.run_test, if_pos (by simp), T.run_sub]
  rw [List.replicate_zero, F51_rows n hn, Option.bind_some, T.run_test, if_pos (by simp), T.run_sub, hs, Option.bind_some, T.run_test, if_pos (by simp [hl]), T.run_ret]
  rfl


def F23_sh : FSh := ⟨[(.one (.si .i64)), (.one (.si .i64))], []⟩

def F23_fo : List FO := [⟨[(.one .sb)], []⟩]
noncomputable def F23_t : (Int × Int) → T Bool := fun (given, k) =>
 (.test (given == 0)
 (.ret true)
 (.ret (given == k)))
noncomputable def F23 (v : (Int × Int)) : Option Bool := (F23_t v).run
noncomputable def F23_E : TEnv := E0
theorem F23_Eok : (F23_E).OK := E0ok
noncomputable def F23_told : Nat → Option SealT := fun id => none
theorem F23_ok : FOK Tryz.prog n_F23 F23_sh F23_fo F23 :=
  fn_ok (E := F23_E) (F23_Eok) (told := F23_told) (fl := []) (c := bodyOf fn_F23) (s := F23_sh) (l := F23_fo) (tree := F23_t) fnat_F23 (by kernel_rfl) (by kernel_rfl) (by kernel_rfl) (loopsOK_of (ls := []) (by kernel_rfl) trivial) (fun v => by kernel_rfl)

def F8_sh : FSh := ⟨[(.one (.sl (.int .i64) false false)), (.one (.sl (.int .i64) false false)), (.one (.fn n_F23))], []⟩

def F8_L4_sh : LSh := ⟨(fun ex => match ex with | .norm => [(1, none), (2, none), (15, none), (16, none), (17, none)] | .exit i => if i = 0 then [] else [] | .ret => [(6, none)]), [(1, (.one (.sl (.int .i64) false false))), (2, (.one (.fn n_F23))), (15, (.one (.sl (.int .i64) false false))), (16, (.one (.si .i64))), (17, (.one (.si .i64)))], [], [⟨.ret, [(6, (.one .sb))], []⟩, ⟨(.exit 0), [], []⟩], [], []⟩
noncomputable def F8_L4_step : (List (Int) × Unit × List (Int) × Int × Int) → T ((List (Int) × Unit × List (Int) × Int × Int) ⊕ (Bool ⊕ Unit)) := fun (s2, (), t15, t16, t17) =>
 (.test (decide (t17 < t16))
 (.test (decide ((0 ≤ t17) ∧ (t17 < ((List.length t15) : Int))))
 (.sub (t15[(Int.toNat t17)]?) fun z0 =>
 (.test (decide ((0 ≤ t17) ∧ (t17 < ((List.length s2) : Int))))
 (.sub (s2[(Int.toNat t17)]?) fun z1 =>
 (.sub (F23 (z0, z1)) fun z2 =>
 (.test (! z2)
 (.ret (Sum.inr (Sum.inl false)))
 (.ret (Sum.inl (s2, ((), (t15, (t16, (w64 (t17 + 1)))))))))))
 .fail))
 .fail)
 (.ret (Sum.inr (Sum.inr ()))))
noncomputable def F8_L4 (v : (List (Int) × Unit × List (Int) × Int × Int)) : Option (Bool ⊕ Unit) := loopO (fun v => (F8_L4_step v).run) v

def F8_fo : List FO := [⟨[(.one .sb)], []⟩]
noncomputable def F8_t : (List (Int) × List (Int) × Unit) → T Bool := fun (s1, s2, ()) =>
 (.test (((List.length s1) : Int) != ((List.length s2) : Int))
 (.ret false)
 (.sub (F8_L4 (s2, ((), (s1, (((List.length s1) : Int), (0 : Int)))))) fun z0 =>
 (.test (Sum.isLeft z0)
 (.sub (Sum.getLeft? z0) fun z1 =>
 (.ret z1))
 (.sub (Sum.getRight? z0) fun z2 =>
 (.ret true)))))
noncomputable def F8 (v : (List (Int) × List (Int) × Unit)) : Option Bool := (F8_t v).run
noncomputable def F8_E : TEnv := (E0.add1 n_F23 F23_sh F23_fo F23)
theorem F8_Eok : (F8_E).OK := (E0ok.add1 F23_ok)
noncomputable def F8_told : Nat → Option SealT := fun id => if id = 4 then some (LSh.told F8_L4_sh 0 (F8_L4_step)) else none
theorem F8_L4_ok : ToldOK Tryz.prog 0 (loopAt (bodyOf fn_F27) [0]) (LSh.told F8_L4_sh 0 (F8_L4_step)) :=
  loop_ok (E := F8_E) (F8_Eok) (told := F8_told) (l := F8_L4_sh) (step := F8_L4_step) (loopsOK_of (ls := []) (by kernel_rfl) trivial) (by kernel_rfl) (fun v => by kernel_rfl)
theorem F8_ok : FOK Tryz.prog n_F27 F8_sh F8_fo F8 :=
  fn_ok (E := F8_E) (F8_Eok) (told := F8_told) (fl := []) (c := bodyOf fn_F27) (s := F8_sh) (l := F8_fo) (tree := F8_t) fnat_F27 (by kernel_rfl) (by kernel_rfl) (by kernel_rfl) (loopsOK_of (ls := [loopAt (bodyOf fn_F27) [0]]) (by kernel_rfl) ⟨.inr ⟨_, by kernel_rfl, F8_L4_ok⟩, trivial⟩) (fun v => by kernel_rfl)

def F31_sh : FSh := ⟨[(.ag [(.sl (.int .i64) false false)]), (.one (.sl (.int .i64) false false))], []⟩

def F31_fo : List FO := [⟨[(.one .sb)], []⟩]
noncomputable def F31_t : (List (Int) × List (Int)) → T Bool := fun (p_0, list) =>
 (.sub (F8 (p_0, (list, ()))) fun z0 =>
 (.ret z0))
noncomputable def F31 (v : (List (Int) × List (Int))) : Option Bool := (F31_t v).run
noncomputable def F31_E : TEnv := (E0.add1 n_F27 F8_sh F8_fo F8)
theorem F31_Eok : (F31_E).OK := (E0ok.add1 F8_ok)
noncomputable def F31_told : Nat → Option SealT := fun id => none
theorem F31_ok : FOK Tryz.prog n_F31 F31_sh F31_fo F31 :=
  fn_ok (E := F31_E) (F31_Eok) (told := F31_told) (fl := []) (c := bodyOf fn_F31) (s := F31_sh) (l := F31_fo) (tree := F31_t) fnat_F31 (by kernel_rfl) (by kernel_rfl) (by kernel_rfl) (loopsOK_of (ls := []) (by kernel_rfl) trivial) (fun v => by kernel_rfl)

theorem F31_eq (p q : List Int) (hl : p.length < 4611686018427387904) : F31 (p, q) = some (fits p q) := by
  have hc : ∀ a b, F23 (a, b) = some (a == 0 || a == b) := by
    intro a b
    simp only [F23, F23_t, T.run]
    cases a == 0 <;> simp
  simp only [F31, F31_t, T.run, F8, F8_t, fits]
  by_cases he : p.length = q.length
  · have h := loop_any (step := fun v => (F8_L4_step v).run) (xs := p.zip q) (fun x => !(x.1 == 0 || x.1 == x.2)) (fun k => (q, ((), (p, ((p.length : Int), (k : Int)))))) (.inl false) (.inr ())
      (fun k x hx => by
        obtain ⟨x1, x2⟩ := x
        rw [List.getElem?_zip_eq_some] at hx
        obtain ⟨h1, h2⟩ := hx
        simp only at h1 h2
        have hk := getElem?_lt h1
        have hk2 := getElem?_lt h2
        have c0 : (k : Int) < (p.length : Int) := by omega
        have c1 : (0 : Int) ≤ (k : Int) ∧ (k : Int) < (p.length : Int) := by omega
        have c2 : (0 : Int) ≤ (k : Int) ∧ (k : Int) < (q.length : Int) := by omega
        have w1 : w64 ((k : Int) + 1) = ((k + 1 : Nat) : Int) := by rw [w64_id (by omega) (by omega)]; omega
        simp only [F8_L4_step, T.run, c0, c1, c2, decide_true, if_true, and_self, Int.toNat_natCast, h1, h2, Option.bind_some, w1, hc]
        cases (x1 == 0 || x1 == x2) <;> simp)
      (by simp [F8_L4_step, T.run, he])
    simp only [Int.natCast_zero] at h
    have hne : ((p.length : Int) != (q.length : Int)) = false := by simp [he]
    simp only [F8_L4, h, hne, decide_eq_true he]
    cases (p.zip q).any (fun x => !(x.1 == 0 || x.1 == x.2)) <;> simp
  · have hne : ((p.length : Int) != (q.length : Int)) = true := by simp; omega
    simp [hne, he]


def F25_sh : FSh := ⟨[(.one (.sl (.int .i64) false false)), (.one (.pb (.list false (.int .i64))))], []⟩

def F25_fo : List FO := [⟨[(.one .sb)], []⟩]
noncomputable def F25_t : (List (Int) × List (Int)) → T Bool := fun (list, t1) =>
 (.sub ([t1][0]?) fun z0 =>
 (.sub (F31 (z0, list)) fun z1 =>
 (.ret (! z1))))
noncomputable def F25 (v : (List (Int) × List (Int))) : Option Bool := (F25_t v).run
noncomputable def F25_E : TEnv := (E0.add1 n_F31 F31_sh F31_fo F31)
theorem F25_Eok : (F25_E).OK := (E0ok.add1 F31_ok)
noncomputable def F25_told : Nat → Option SealT := fun id => none
theorem F25_ok : FOK Tryz.prog n_F25 F25_sh F25_fo F25 :=
  fn_ok (E := F25_E) (F25_Eok) (told := F25_told) (fl := []) (c := bodyOf fn_F25) (s := F25_sh) (l := F25_fo) (tree := F25_t) fnat_F25 (by kernel_rfl) (by kernel_rfl) (by kernel_rfl) (loopsOK_of (ls := []) (by kernel_rfl) trivial) (fun v => by kernel_rfl)

theorem F25_eq (p q : List Int) (hl : p.length < 4611686018427387904) : F25 (q, p) = some (!fits p q) := by
  simp only [F25, F25_t, T.run, List.getElem?_cons_zero, Option.bind_some, F31_eq p q hl]


def F9_sh : FSh := ⟨[(.one (.sl (.list true (.int .i64)) false false)), (.clo n_F25 [(.one (.pb (.list false (.int .i64))))])], []⟩

def F9_L2_sh : LSh := ⟨(fun ex => match ex with | .norm => [(0, none), (1, none), (7, none), (8, none)] | .exit i => if i = 0 then [] else [] | .ret => [(4, none)]), [(0, (.one (.sl (.list true (.int .i64)) false false))), (1, (.clo n_F25 [(.one (.pb (.list false (.int .i64))))])), (7, (.one (.si .i64))), (8, (.one (.si .i64)))], [], [⟨.ret, [(4, (.one (.si .i64)))], []⟩, ⟨(.exit 0), [], []⟩], [], []⟩
noncomputable def F9_L2_step : (List (List (Int)) × List (Int) × Int × Int) → T ((List (List (Int)) × List (Int) × Int × Int) ⊕ (Int ⊕ Unit)) := fun (s, f_0, t7, t8) =>
 (.test (decide (t8 < t7))
 (.test (decide ((0 ≤ t8) ∧ (t8 < ((List.length s) : Int))))
 (.sub (s[(Int.toNat t8)]?) fun z0 =>
 (.sub (F25 (z0, f_0)) fun z1 =>
 (.test z1
 (.ret (Sum.inr (Sum.inl t8)))
 (.ret (Sum.inl (s, (f_0, (t7, (w64 (t8 + 1))))))))))
 .fail)
 (.ret (Sum.inr (Sum.inr ()))))
noncomputable def F9_L2 (v : (List (List (Int)) × List (Int) × Int × Int)) : Option (Int ⊕ Unit) := loopO (fun v => (F9_L2_step v).run) v

def F9_fo : List FO := [⟨[(.one (.si .i64))], []⟩]
noncomputable def F9_t : (List (List (Int)) × List (Int)) → T Int := fun (s, f_0) =>
 (.sub (F9_L2 (s, (f_0, (((List.length s) : Int), (0 : Int))))) fun z0 =>
 (.test (Sum.isLeft z0)
 (.sub (Sum.getLeft? z0) fun z1 =>
 (.ret z1))
 (.sub (Sum.getRight? z0) fun z2 =>
 (.ret (-1)))))
noncomputable def F9 (v : (List (List (Int)) × List (Int))) : Option Int := (F9_t v).run
noncomputable def F9_E : TEnv := (E0.add1 n_F25 F25_sh F25_fo F25)
theorem F9_Eok : (F9_E).OK := (E0ok.add1 F25_ok)
noncomputable def F9_told : Nat → Option SealT := fun id => if id = 2 then some (LSh.told F9_L2_sh 0 (F9_L2_step)) else none
theorem F9_L2_ok : ToldOK Tryz.prog 0 (loopAt (bodyOf fn_F24) [0]) (LSh.told F9_L2_sh 0 (F9_L2_step)) :=
  loop_ok (E := F9_E) (F9_Eok) (told := F9_told) (l := F9_L2_sh) (step := F9_L2_step) (loopsOK_of (ls := []) (by kernel_rfl) trivial) (by kernel_rfl) (fun v => by kernel_rfl)
theorem F9_ok : FOK Tryz.prog n_F24 F9_sh F9_fo F9 :=
  fn_ok (E := F9_E) (F9_Eok) (told := F9_told) (fl := []) (c := bodyOf fn_F24) (s := F9_sh) (l := F9_fo) (tree := F9_t) fnat_F24 (by kernel_rfl) (by kernel_rfl) (by kernel_rfl) (loopsOK_of (ls := [loopAt (bodyOf fn_F24) [0]]) (by kernel_rfl) ⟨.inr ⟨_, by kernel_rfl, F9_L2_ok⟩, trivial⟩) (fun v => by kernel_rfl)

theorem F9_eq (s : List (List Int)) (p : List Int) (hp : p.length < 4611686018427387904) (hl : s.length < 4611686018427387904) : F9 (s, p) = some (idxI (fun q => !fits p q) s) := by
  have h := loop_find (step := fun v => (F9_L2_step v).run) (xs := s) (fun q => !fits p q) (fun k => (s, (p, ((s.length : Int), (k : Int))))) (fun k => .inl (k : Int)) (.inr ())
    (fun k x hx => by
      have hlt := getElem?_lt hx
      have h1 : (k : Int) < (s.length : Int) := by omega
      have h2 : (0 : Int) ≤ k ∧ (k : Int) < (s.length : Int) := by omega
      simp only [F9_L2_step, T.run, Int.toNat_natCast, hx, Option.bind_some, h1, h2, decide_true, if_true, and_self, F25_eq p x hp]
      rw [w64_id (z := (k : Int) + 1) (by omega) (by omega)]
      cases hv : fits p x <;> simp)
    (by simp [F9_L2_step, T.run])
  rw [show ((0 : Nat) : Int) = 0 from rfl] at h
  simp only [F9, F9_t, T.run, F9_L2]
  rw [h]
  simp only [idxI]
  cases hf : s.findIdx? (fun q => !fits p q) <;> simp [Sum.isLeft]


def F7_sh : FSh := ⟨[(.one (.rw 0 0)), (.clo n_F25 [(.one (.pb (.list false (.int .i64))))])], [(.row 0 (.list true (.int .i64)))]⟩

def F7_L5_sh : LSh := ⟨(fun ex => match ex with | .norm => [(0, none), (1, none), (5, none), (6, none)] | .exit i => if i = 0 then [(0, none), (5, none)] else [] | .ret => [(4, none)]), [(0, (.one (.rw 0 0))), (1, (.clo n_F25 [(.one (.pb (.list false (.int .i64))))])), (5, (.one (.si .i64))), (6, (.one (.si .i64)))], [(.row 0 (.list true (.int .i64)))], [⟨(.exit 0), [(0, (.one (.rw 0 0))), (5, (.one (.si .i64)))], [(.row 0 (.list true (.int .i64)))]⟩], [], []⟩
noncomputable def F7_L5_step : ((Unit × List (Int) × Int × Int) × List (List (Int))) → T (((Unit × List (Int) × Int × Int) × List (List (Int))) ⊕ ((Unit × Int) × List (List (Int)))) := fun (((), del_0, i, j), s) =>
 (.test (decide (j < ((List.length s) : Int)))
 (.test (decide ((0 ≤ j) ∧ (j < ((List.length s) : Int))))
 (.sub (s[(0 + (Int.toNat j))]?) fun z0 =>
 (.sub (F25 (z0, del_0)) fun z1 =>
 (.test (! z1)
 (.test (decide ((0 ≤ i) ∧ (i < ((List.length s) : Int))))
 (.sub (s[(0 + (Int.toNat i))]?) fun z2 =>
 (.test (decide ((0 = 0) ∧ ((List.length s) = (List.length (List.set s (0 + (Int.toNat i)) z0)))))
 (.ret (Sum.inl (((), (del_0, ((w64 (i + 1)), (w64 (j + 1))))), (List.set s (0 + (Int.toNat i)) z0))))
 .fail))
 .fail)
 (.test (decide ((0 = 0) ∧ ((List.length s) = (List.length s))))
 (.ret (Sum.inl (((), (del_0, (i, (w64 (j + 1))))), s)))
 .fail))))
 .fail)
 (.test (decide ((0 = 0) ∧ ((List.length s) = (List.length s))))
 (.ret (Sum.inr (((), i), s)))
 .fail))
noncomputable def F7_L5 (v : ((Unit × List (Int) × Int × Int) × List (List (Int)))) : Option ((Unit × Int) × List (List (Int))) := loopO (fun v => (F7_L5_step v).run) v

def F7_w_fo : List FO := [⟨[(.one (.rf 0 0))], [(.row 0 (.list true (.int .i64)))]⟩]
noncomputable def F7_t : ((Unit × List (Int)) × List (List (Int))) → T ((Nat × Nat) × List (List (Int))) := fun (((), del_0), s) =>
 (.test (decide ((0 + (List.length s)) ≤ (List.length s)))
 (.sub (F9 ((win s 0 (List.length s)), del_0)) fun z0 =>
 (.test (z0 == (-1))
 (.ret ((0, (List.length s)), s))
 (.test (decide ((0 = 0) ∧ ((List.length s) = (List.length s))))
 (.sub (F7_L5 (((), (del_0, (z0, (w64 (z0 + 1))))), s)) fun z1 =>
 (.test (decide (0 ≤ z1.1.2))
 (.test (decide (((Int.toNat z1.1.2) ≤ (List.length z1.2)) ∧ ((List.length z1.2) ≤ (List.length z1.2))))
 (.test (decide ((0 < ((List.length z1.2) - (Int.toNat z1.1.2))) ∧ (((0 + (Int.toNat z1.1.2)) + ((List.length z1.2) - (Int.toNat z1.1.2))) ≤ (List.length z1.2))))
 (.test (decide (0 ≤ z1.1.2))
 (.test (decide ((0 ≤ (Int.toNat z1.1.2)) ∧ ((Int.toNat z1.1.2) ≤ (List.length z1.2))))
 (.ret ((0, ((Int.toNat z1.1.2) - 0)), (spliceT z1.2 (0 + (Int.toNat z1.1.2)) (List.replicate ((List.length z1.2) - (Int.toNat z1.1.2)) ([] : List (Int))))))
 .fail)
 .fail)
 .fail)
 .fail)
 .fail))
 .fail)))
 .fail)
noncomputable def F7_w (v : ((Unit × List (Int)) × List (List (Int)))) : Option ((Nat × Nat) × List (List (Int))) := (F7_t v).run
noncomputable def F7_E : TEnv := ((E0.add1 n_F24 F9_sh F9_fo F9).add1 n_F25 F25_sh F25_fo F25)
theorem F7_Eok : (F7_E).OK := ((E0ok.add1 F9_ok).add1 F25_ok)
noncomputable def F7_told : Nat → Option SealT := fun id => if id = 5 then some (LSh.told F7_L5_sh 1 (F7_L5_step)) else none
theorem F7_L5_ok : ToldOK Tryz.prog 1 (loopAt (bodyOf fn_F20) [0]) (LSh.told F7_L5_sh 1 (F7_L5_step)) :=
  loop_ok (E := F7_E) (F7_Eok) (told := F7_told) (l := F7_L5_sh) (step := F7_L5_step) (loopsOK_of (ls := []) (by kernel_rfl) trivial) (by kernel_rfl) (fun v => by kernel_rfl)
theorem F7_w_ok : FOK Tryz.prog n_F20 F7_sh F7_w_fo F7_w :=
  fn_ok (E := F7_E) (F7_Eok) (told := F7_told) (fl := []) (c := bodyOf fn_F20) (s := F7_sh) (l := F7_w_fo) (tree := F7_t) fnat_F20 (by kernel_rfl) (by kernel_rfl) (by kernel_rfl) (loopsOK_of (ls := [loopAt (bodyOf fn_F20) [0]]) (by kernel_rfl) ⟨.inr ⟨_, by kernel_rfl, F7_L5_ok⟩, trivial⟩) (fun v => by kernel_rfl)
def F7_fo : List FO := [⟨[(.one (.rw 0 0))], [(.row 0 (.list true (.int .i64)))]⟩]
def F7_m : ((Nat × Nat) × List (List (Int))) → T (Unit × List (List (Int))) := fun ((o, n), r0) => .test (decide (o = 0 ∧ n ≤ (List.length r0))) (.ret ((), (List.take n r0))) .fail
noncomputable def F7 (v : ((Unit × List (Int)) × List (List (Int)))) : Option (Unit × List (List (Int))) := (F7_w v).bind fun o => (F7_m o).run
theorem F7_ok : FOK Tryz.prog n_F20 F7_sh F7_fo F7 :=
  FOK.trunc (l' := F7_fo) F7_w_ok F7_m (fun o => by kernel_rfl)

theorem F7_loop (p : List Int) (hp : p.length < 4611686018427387904) (o : List (List Int)) (hl : o.length < 4611686018427387904) : ∀ (m j : Nat) (s : List (List Int)) (i : Nat), j + m = o.length → s.length = o.length → i < j → s.take i = (o.take j).filter (fits p) → s.drop j = o.drop j →
    ∃ (i' : Nat) (s' : List (List Int)), s'.length = o.length ∧ i' < o.length ∧ s'.take i' = o.filter (fits p) ∧ F7_L5 (((), (p, ((i : Int), (j : Int)))), s) = some (((), (i' : Int)), s')
  | 0, j, s, i, hj, hs, hi, h1, h2 => by
    have : j = o.length := by omega
    subst this
    rw [List.take_length] at h1
    refine ⟨i, s, hs, hi, h1, ?_⟩
    simp only [F7_L5]
    refine loopO_done ?_
    have : ¬ ((o.length : Int) < (s.length : Int)) := by omega
    simp [F7_L5_step, T.run, this]
  | m + 1, j, s, i, hj, hs, hi, h1, h2 => by
    have hlt : j < s.length := by omega
    have hlo : j < o.length := by omega
    have he : s[j] = o[j] := by
      rw [List.drop_eq_getElem_cons hlt, List.drop_eq_getElem_cons hlo] at h2
      exact (List.cons.inj h2).1
    have h2' : s.drop (j + 1) = o.drop (j + 1) := by
      rw [List.drop_eq_getElem_cons hlt, List.drop_eq_getElem_cons hlo] at h2
      exact (List.cons.inj h2).2
    have c0 : (j : Int) < (s.length : Int) := by omega
    have c1 : (0 : Int) ≤ (j : Int) ∧ (j : Int) < (s.length : Int) := by omega
    have c2 : (0 : Int) ≤ (i : Int) ∧ (i : Int) < (s.length : Int) := by omega
    have w1 : w64 ((j : Int) + 1) = ((j + 1 : Nat) : Int) := by rw [w64_id (by omega) (by omega)]; omega
    have w2 : w64 ((i : Int) + 1) = ((i + 1 : Nat) : Int) := by rw [w64_id (by omega) (by omega)]; omega
    have g1 := List.getElem?_eq_getElem hlt
    have g2 := List.getElem?_eq_getElem (show i < s.length by omega)
    have htake : o.take (j + 1) = o.take j ++ [o[j]] := List.take_succ_eq_append_getElem hlo
    cases hf : fits p o[j] with
    | true =>
      have e1 : (s.set i o[j]).take (i + 1) = (o.take (j + 1)).filter (fits p) := by
        rw [List.take_succ_eq_append_getElem (by simp; omega), List.getElem_set_self, List.take_set_of_le (Nat.le_refl _), h1, htake, List.filter_append]
        simp [hf]
      obtain ⟨i', s', r1, r2, r3, r4⟩ := F7_loop p hp o hl m (j + 1) (s.set i o[j]) (i + 1) (by omega) (by simpa using hs) (by omega) e1 (by rw [List.drop_set_of_lt (by omega)]; exact h2')
      refine ⟨i', s', r1, r2, r3, ?_⟩
      simp only [F7_L5] at r4 ⊢
      rw [← r4]
      refine loopO_next ?_
      simp only [F7_L5_step, T.run, c0, c1, c2, decide_true, if_true, and_self, Int.toNat_natCast, Nat.zero_add, g1, g2, he, Option.bind_some, F25_eq p _ hp, hf, Bool.not_true, Bool.not_false, w1, w2, List.length_set]
    | false =>
      have e1 : s.take i = (o.take (j + 1)).filter (fits p) := by
        rw [h1, htake, List.filter_append]
        simp [hf]
      obtain ⟨i', s', r1, r2, r3, r4⟩ := F7_loop p hp o hl m (j + 1) s i (by omega) hs (by omega) e1 h2'
      refine ⟨i', s', r1, r2, r3, ?_⟩
      simp only [F7_L5] at r4 ⊢
      rw [← r4]
      refine loopO_next ?_
      simp only [F7_L5_step, T.run, c0, c1, decide_true, if_true, and_self, Int.toNat_natCast, Nat.zero_add, g1, he, Option.bind_some, F25_eq p _ hp, hf, Bool.not_true, Bool.not_false, Bool.false_eq_true, if_false, w1]
theorem F7_eq (s : List (List Int)) (p : List Int) (hp : p.length < 4611686018427387904) (hl : s.length < 4611686018427387904) : F7 (((), p), s) = some ((), s.filter (fits p)) := by
  have hi := F9_eq s p hp hl
  simp only [F7, F7_w, F7_t, T.run, Nat.zero_add, Nat.le_refl, decide_true, if_true, win_all, hi, Option.bind_some, true_and]
  unfold idxI
  cases hf : s.findIdx? (fun q => !fits p q) with
  | none =>
    have hall : s.filter (fits p) = s := by
      rw [List.filter_eq_self]
      intro x hx
      have := List.findIdx?_eq_none_iff.1 hf x hx
      simpa using this
    rw [hall]
    simp [F7_m, T.run]
  | some i =>
    obtain ⟨h1, h2, h3⟩ := List.findIdx?_eq_some_iff_getElem.1 hf
    have ht : s.take i = (s.take (i + 1)).filter (fits p) := by
      rw [List.take_succ_eq_append_getElem h1, List.filter_append]
      have : [s[i]].filter (fits p) = [] := by simp at h2; simp [h2]
      rw [this, List.append_nil]
      symm
      rw [List.filter_eq_self]
      intro x hx
      obtain ⟨j, hj, e⟩ := List.mem_take_iff_getElem.1 hx
      have := h3 j (by omega)
      rw [e] at this
      simpa using this
    obtain ⟨i', s', r1, r2, r3, r4⟩ := F7_loop p hp s hl (s.length - (i + 1)) (i + 1) s i (by omega) rfl (by omega) ht rfl
    have w1 : w64 ((i : Int) + 1) = ((i + 1 : Nat) : Int) := by rw [w64_id (by omega) (by omega)]; omega
    have hne : ((i : Int) == -1) = false := by rw [beq_int]; exact decide_eq_false (by omega)
    have c1 : (0 : Int) ≤ (i' : Int) := by omega
    have c2 : i' ≤ s'.length ∧ s'.length ≤ s'.length := by omega
    have c3 : 0 < s'.length - i' ∧ i' + (s'.length - i') ≤ s'.length := by omega
    have c4 : 0 ≤ i' ∧ i' ≤ s'.length := by omega
    have hsp : (spliceT s' i' (List.replicate (s'.length - i') ([] : List Int))).take i' = s.filter (fits p) := by
      unfold spliceT
      rw [List.take_append_of_le_length (by rw [List.length_take]; omega), List.take_take, Nat.min_self, r3]
    have hspl : i' ≤ (spliceT s' i' (List.replicate (s'.length - i') ([] : List Int))).length := by
      unfold spliceT
      simp only [List.length_append, List.length_take, List.length_replicate, List.length_drop]
      omega
    simp only [hne, Bool.false_eq_true, if_false, w1, r4, Option.bind_some, c1, c2, c3, c4, decide_true, if_true, and_self, Int.toNat_natCast, F7_m, T.run, Nat.sub_zero, true_and, hspl, hsp]


def F33_sh : FSh := ⟨[(.ag [(.sl (.int .i64) false false)])], []⟩

def F33_fo : List FO := [⟨[(.one (.rw 0 0))], [(.row 0 (.list true (.int .i64)))]⟩]
noncomputable def F33_t : List (Int) → T (Unit × List (List (Int))) := fun p_0 =>
 (.sub (F51 ((List.length p_0) : Int)) fun z0 =>
 (.test (decide ((0 = 0) ∧ ((List.length z0.2) = (List.length z0.2))))
 (.sub (F7 (((), p_0), z0.2)) fun z1 =>
 (.test (decide ((0 = 0) ∧ ((List.length z1.2) = (List.length z1.2))))
 (.ret ((), z1.2))
 .fail))
 .fail))
noncomputable def F33 (v : List (Int)) : Option (Unit × List (List (Int))) := (F33_t v).run
noncomputable def F33_E : TEnv := ((E0.add1 n_F51 F51_sh F51_fo F51).add1 n_F20 F7_sh F7_fo F7)
theorem F33_Eok : (F33_E).OK := ((E0ok.add1 F51_ok).add1 F7_ok)
noncomputable def F33_told : Nat → Option SealT := fun id => none
theorem F33_ok : FOK Tryz.prog n_F33 F33_sh F33_fo F33 :=
  fn_ok (E := F33_E) (F33_Eok) (told := F33_told) (fl := []) (c := bodyOf fn_F33) (s := F33_sh) (l := F33_fo) (tree := F33_t) fnat_F33 (by kernel_rfl) (by kernel_rfl) (by kernel_rfl) (loopsOK_of (ls := []) (by kernel_rfl) trivial) (fun v => by kernel_rfl)

theorem F33_eq (p : List Int) (hp : isPz p = true) : F33 p = some ((), solL p) := by
  have hpl := isPz_len hp
  have hq := allQ_len p.length hpl.2
  have hd := F7_eq (allQ p.length) p (by omega) (by omega)
  have hsl : (allQ p.length).filter (fits p) = solL p := rfl
  rw [hsl] at hd
  rw [F33, F33_t, T.run_sub, F51_eq p.length hpl, Option.bind_some, T.run_test, if_pos (by simp), T.run_sub, hd, Option.bind_some, T.run_test, if_pos (by simp), T.run_ret]


def F40_sh : FSh := ⟨[.one (.sl (.list true (.int .i64)) false false)], []⟩
def F40_fo : List FO := [⟨[.one (.rw 0 0)], [.row 0 (.list true (.int .i64))]⟩]
def F40 (v : List (List Int)) : Option (Unit × List (List Int)) := if v.length ≤ maxLen ∧ v.length * 24 ≤ 140737488355328 then some ((), v) else none
def F40_ren : Shelf.Ren := ⟨fun _ => n_F40, fun t => if t = 4 then 4 else if t = 22 then 26 else 24, fun x => x⟩
theorem F40_lay : SlLaysE0.n41 Tryz.prog F40_ren :=
  { mixed := by kernel_rfl, f41 := ⟨"slices.Clone[[][]int,[]int]", by kernel_rfl, by kernel_rfl⟩, t4 := by kernel_rfl, a4 := fun w => by kernel_rfl, z4 := fun w => by kernel_rfl, v4 := fun w => by kernel_rfl, t22 := by kernel_rfl, a22 := fun w => by kernel_rfl, z22 := fun w => by kernel_rfl, v22 := fun w => by kernel_rfl }
noncomputable def F40_info : TypeInfo := (Tryz.prog.info? 24).get (by kernel_rfl)
theorem F40_ok : FOK Tryz.prog n_F40 F40_sh F40_fo F40 :=
  clone_ok (e := (.list true (.int .i64))) ⟨_, fnat_F40, by kernel_rfl, by kernel_rfl⟩ (ρr := F40_ren) rfl F40_lay rfl F40_info (.slice none 0 0) 24 (by kernel_rfl) (by kernel_rfl) (by kernel_rfl) (by kernel_rfl) (by decide) (by decide) (fun w => by kernel_rfl)

def F81_sh : FSh := ⟨[(.ag [(.sl (.int .i64) false false)])], []⟩

def F81_fo : List FO := [⟨[(.one (.rw 0 0)), (.one .sb)], [(.row 0 (.list true (.int .i64)))]⟩]
noncomputable def F81_t : List (Int) → T ((Unit × Bool) × List (List (Int))) := fun p_0 =>
 (.sub (F87 p_0) fun z0 =>
 (.test (! z0)
 (.test true
 (.ret (((), false), ([] : List (List Int))))
 .fail)
 (.sub (F33 p_0) fun z1 =>
 (.test (decide (((List.length z1.2) : Int) > 300))
 (.test true
 (.ret (((), false), ([] : List (List Int))))
 .fail)
 (.test (decide ((0 + (List.length z1.2)) ≤ (List.length z1.2)))
 (.sub (F40 (win z1.2 0 (List.length z1.2))) fun z2 =>
 (.test (decide ((0 = 0) ∧ ((List.length z2.2) = (List.length z2.2))))
 (.ret (((), true), z2.2))
 .fail))
 .fail)))))
noncomputable def F81 (v : List (Int)) : Option ((Unit × Bool) × List (List (Int))) := (F81_t v).run
noncomputable def F81_E : TEnv := (((E0.add1 n_F87 F87_sh F87_fo F87).add1 n_F33 F33_sh F33_fo F33).add1 n_F40 F40_sh F40_fo F40)
theorem F81_Eok : (F81_E).OK := (((E0ok.add1 F87_ok).add1 F33_ok).add1 F40_ok)
noncomputable def F81_told : Nat → Option SealT := fun id => none
theorem F81_ok : FOK Tryz.prog n_F81 F81_sh F81_fo F81 :=
  fn_ok (E := F81_E) (F81_Eok) (told := F81_told) (fl := []) (c := bodyOf fn_F81) (s := F81_sh) (l := F81_fo) (tree := F81_t) fnat_F81 (by kernel_rfl) (by kernel_rfl) (by kernel_rfl) (loopsOK_of (ls := []) (by kernel_rfl) trivial) (fun v => by kernel_rfl)

theorem F81_eq (p : List Int) (hl : p.length < 4611686018427387904) : F81 p = some (((), (solR p).1), (solR p).2) := by
  rw [F81, F81_t, T.run_sub, F87_eq p hl, Option.bind_some, T.run_test]
  unfold solR
  cases hp : isPz p with
  | false => simp [T.run]
  | true =>
    have hpl := isPz_len hp
    have hq := allQ_len p.length hpl.2
    have hsol : F33 p = some ((), solL p) := by
      have hd := F7_eq (allQ p.length) p hl (by omega)
      have hsl : (allQ p.length).filter (fits p) = solL p := rfl
      rw [hsl] at hd
      rw [F33, F33_t, T.run_sub, F51_eq p.length hpl, Option.bind_some, T.run_test, if_pos (by simp), T.run_sub, hd, Option.bind_some, T.run_test, if_pos (by simp), T.run_ret]
    rw [if_neg (by simp), T.run_sub, hsol, Option.bind_some]
    have hle := solL_len p hpl.2
    generalize solL p = r at *
    have hc : F40 r = some ((), r) := by
      unfold F40
      rw [if_pos]
      exact ⟨by unfold maxLen; omega, by omega⟩
    simp only [T.run_test, T.run_sub, T.run_ret, T.run_fail, Nat.zero_add, win_all]
    by_cases h3 : r.length ≤ 300
    · have c : ¬ ((r.length : Int) > 300) := by omega
      simp [c, h3, hc]
    · have c : (r.length : Int) > 300 := by omega
      simp [c, h3]


def F46_sh : FSh := ⟨[(.ag [(.sl (.int .i64) false false)])], []⟩

def F46_fo : List FO := [⟨[(.one (.si .i64)), (.one .sb)], []⟩]
noncomputable def F46_t : List (Int) → T (Int × Bool) := fun p_0 =>
 (.sub (F81 p_0) fun z0 =>
 (.ret (((List.length z0.2) : Int), z0.1.2)))
noncomputable def F46 (v : List (Int)) : Option (Int × Bool) := (F46_t v).run
noncomputable def F46_E : TEnv := (E0.add1 n_F81 F81_sh F81_fo F81)
theorem F46_Eok : (F46_E).OK := (E0ok.add1 F81_ok)
noncomputable def F46_told : Nat → Option SealT := fun id => none
theorem F46_ok : FOK Tryz.prog n_F46 F46_sh F46_fo F46 :=
  fn_ok (E := F46_E) (F46_Eok) (told := F46_told) (fl := []) (c := bodyOf fn_F46) (s := F46_sh) (l := F46_fo) (tree := F46_t) fnat_F46 (by kernel_rfl) (by kernel_rfl) (by kernel_rfl) (loopsOK_of (ls := []) (by kernel_rfl) trivial) (fun v => by kernel_rfl)

theorem F46_eq (p : List Int) (hl : p.length < 4611686018427387904) : F46 p = some (((solR p).2.length : Int), (solR p).1) := by
  rw [F46, F46_t, T.run_sub, F81_eq p hl, Option.bind_some, T.run_ret]


def F82_sh : FSh := ⟨[(.one (.pf 0 0 0)), (.one (.si .i64))], [(.rcd 0 [(.sl (.int .u8) false true), (.si .i64), (.si .u64)])]⟩

def F82_fo : List FO := [⟨[(.one .sb)], [(.rcd 0 [(.sl (.int .u8) false true), (.si .i64), (.si .u64)])]⟩]
noncomputable def F82_t : ((Unit × Int) × (List (Int) × Int × Int)) → T (Bool × (List (Int) × Int × Int)) := fun (((), n), (c_0, c_1, c_2)) =>
 (.sub (F68 (((), n), (c_0, (c_1, c_2)))) fun z0 =>
 (.ret ((z0.1 == 0), (z0.2.1, (z0.2.2.1, z0.2.2.2)))))
noncomputable def F82 (v : ((Unit × Int) × (List (Int) × Int × Int))) : Option (Bool × (List (Int) × Int × Int)) := (F82_t v).run
noncomputable def F82_E : TEnv := (E0.add1 n_F68 F68_sh F68_fo F68)
theorem F82_Eok : (F82_E).OK := (E0ok.add1 F68_ok)
noncomputable def F82_told : Nat → Option SealT := fun id => none
theorem F82_ok : FOK Tryz.prog n_F82 F82_sh F82_fo F82 :=
  fn_ok (E := F82_E) (F82_Eok) (told := F82_told) (fl := []) (c := bodyOf fn_F82) (s := F82_sh) (l := F82_fo) (tree := F82_t) fnat_F82 (by kernel_rfl) (by kernel_rfl) (by kernel_rfl) (loopsOK_of (ls := []) (by kernel_rfl) trivial) (fun v => by kernel_rfl)

end Go.Proofs.W
