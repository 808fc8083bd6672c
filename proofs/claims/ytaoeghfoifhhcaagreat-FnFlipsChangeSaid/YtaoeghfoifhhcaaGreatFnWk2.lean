/- Functions of the program, walked, and what they compute. -/
import Derived.Test.YtaoeghfoifhhcaaGreatFnWk1
set_option linter.unusedVariables false
set_option linter.unusedSimpArgs false
set_option maxRecDepth 100000
set_option maxHeartbeats 4000000
namespace Go.Proofs.W
open Go Go.Gm Go.Proofs
open Go.RowKit Go.Shelf

def joinD (n : Nat) (ds : List Dg) (a b : Int) : Bool := decide (b - a = 1) || (decide (b - a = (n : Int) - 1) || decide ((a, b) ∈ ds))
theorem joinD_iff {n : Nat} {ds : List Dg} {a b : Int} : joinD n ds a b = true ↔ b - a = 1 ∨ b - a = (n : Int) - 1 ∨ (a, b) ∈ ds := by
  unfold joinD
  simp only [Bool.or_eq_true, decide_eq_true_eq]
def F61_sh : FSh := ⟨[(.one (.si .i64)), (.one (.sl (.pair (.int .i64) (.int .i64)) false false)), (.one (.si .i64)), (.one (.si .i64))], []⟩

def F61_L4_sh : LSh := ⟨(fun ex => match ex with | .norm => [(2, none), (3, none), (23, none), (24, none), (25, none)] | .exit i => if i = 0 then [] else [] | .ret => [(8, none)]), [(2, (.one (.si .i64))), (3, (.one (.si .i64))), (23, (.one (.sl (.pair (.int .i64) (.int .i64)) false false))), (24, (.one (.si .i64))), (25, (.one (.si .i64)))], [], [⟨.ret, [(8, (.one .sb))], []⟩, ⟨(.exit 0), [], []⟩], [], []⟩
noncomputable def F61_L4_step : (Int × Int × List ((Int × Int)) × Int × Int) → T ((Int × Int × List ((Int × Int)) × Int × Int) ⊕ (Bool ⊕ Unit)) := fun (a, b, t23, t24, t25) =>
 (.test (decide (t25 < t24))
 (.test (decide ((0 ≤ t25) ∧ (t25 < ((List.length t23) : Int))))
 (.sub (t23[(Int.toNat t25)]?) fun z0 =>
 (.test (z0.1 == a)
 (.test (z0.2 == b)
 (.ret (Sum.inr (Sum.inl true)))
 (.ret (Sum.inl (a, (b, (t23, (t24, (w64 (t25 + 1)))))))))
 (.ret (Sum.inl (a, (b, (t23, (t24, (w64 (t25 + 1))))))))))
 .fail)
 (.ret (Sum.inr (Sum.inr ()))))
noncomputable def F61_L4 (v : (Int × Int × List ((Int × Int)) × Int × Int)) : Option (Bool ⊕ Unit) := loopO (fun v => (F61_L4_step v).run) v

def F61_fo : List FO := [⟨[(.one .sb)], []⟩]
noncomputable def F61_t : (Int × List ((Int × Int)) × Int × Int) → T Bool := fun (n, ds, a, b) =>
 (.test ((w64 (b - a)) == 1)
 (.ret true)
 (.test ((w64 (b - a)) == (w64 (n - 1)))
 (.ret true)
 (.sub (F61_L4 (a, (b, (ds, (((List.length ds) : Int), (0 : Int)))))) fun z0 =>
 (.test (Sum.isLeft z0)
 (.sub (Sum.getLeft? z0) fun z1 =>
 (.ret z1))
 (.sub (Sum.getRight? z0) fun z2 =>
 (.ret false))))))
noncomputable def F61 (v : (Int × List ((Int × Int)) × Int × Int)) : Option Bool := (F61_t v).run
noncomputable def F61_E : TEnv := E0
theorem F61_Eok : (F61_E).OK := E0ok
noncomputable def F61_told : Nat → Option SealT := fun id => if id = 4 then some (LSh.told F61_L4_sh 0 (F61_L4_step)) else none
theorem F61_L4_ok : ToldOK Tryz.prog 0 (loopAt (bodyOf fn_F61) [0]) (LSh.told F61_L4_sh 0 (F61_L4_step)) :=
  loop_ok (E := F61_E) (F61_Eok) (told := F61_told) (l := F61_L4_sh) (step := F61_L4_step) (loopsOK_of (ls := []) (by kernel_rfl) trivial) (by kernel_rfl) (fun v => by kernel_rfl)
theorem F61_ok : FOK Tryz.prog n_F61 F61_sh F61_fo F61 :=
  fn_ok (E := F61_E) (F61_Eok) (told := F61_told) (fl := []) (c := bodyOf fn_F61) (s := F61_sh) (l := F61_fo) (tree := F61_t) fnat_F61 (by kernel_rfl) (by kernel_rfl) (by kernel_rfl) (loopsOK_of (ls := [loopAt (bodyOf fn_F61) [0]]) (by kernel_rfl) ⟨.inr ⟨_, by kernel_rfl, F61_L4_ok⟩, trivial⟩) (fun v => by kernel_rfl)

theorem F61_eq (n : Nat) (ds : List Dg) (a b : Int) (hn : n ≤ 12) (ha : 0 ≤ a ∧ a ≤ 12) (hb : 0 ≤ b ∧ b ≤ 12) (hl : ds.length < 1000000) : F61 ((n : Int), (ds, (a, b))) = some (joinD n ds a b) := by
  have w1 : w64 (b - a) = b - a := w64_id (by omega) (by omega)
  have w2 : w64 ((n : Int) - 1) = (n : Int) - 1 := w64_id (by omega) (by omega)
  have h := loop_any (step := fun v => (F61_L4_step v).run) (xs := ds) (fun d => decide ((a, b) = d)) (fun k => (a, (b, (ds, ((ds.length : Int), (k : Int)))))) (.inl true) (.inr ())
    (fun k x hx => by
      have hlt := getElem?_lt hx
      obtain ⟨x, y⟩ := x
      have w1 : w64 ((k : Int) + 1) = ((k + 1 : Nat) : Int) := by rw [w64_id (by omega) (by omega)]; omega
      rw [F61_L4_step, T.run_test, if_pos (decide_eq_true (by omega)), T.run_test, if_pos (decide_eq_true (by omega)), T.run_sub, Int.toNat_natCast, hx, Option.bind_some, T.run_test, w1]
      by_cases c1 : x = a
      · subst c1
        rw [if_pos (by simp), T.run_test]
        by_cases c2 : y = b
        · subst c2
          rw [if_pos (by simp), T.run_ret]
          simp
        · rw [if_neg (by simpa using c2), T.run_ret, if_neg (by simp; exact fun e => c2 e.symm)]
      · rw [if_neg (by simpa using c1), T.run_ret, if_neg (by simp; exact fun e => absurd e.symm c1)])
    (by rw [F61_L4_step, T.run_test, if_neg (by simp), T.run_ret])
  simp only [Int.natCast_zero] at h
  have e : ds.any (fun d => decide ((a, b) = d)) = decide ((a, b) ∈ ds) := by
    rw [Bool.eq_iff_iff, List.any_eq_true, decide_eq_true_eq]
    constructor
    · rintro ⟨d, hd, e⟩; rw [decide_eq_true_eq] at e; rw [e]; exact hd
    · exact fun h => ⟨_, h, by simp⟩
  rw [F61, F61_t, T.run_test, w1, w2, joinD]
  by_cases c1 : b - a = 1
  · rw [if_pos (by simpa using c1), T.run_ret, decide_eq_true c1]; rfl
  · rw [if_neg (by simpa using c1), T.run_test, decide_eq_false c1]
    by_cases c2 : b - a = (n : Int) - 1
    · rw [if_pos (by simpa using c2), T.run_ret, decide_eq_true c2]; rfl
    · rw [if_neg (by simpa using c2), T.run_sub, F61_L4, h, Option.bind_some, T.run_test, decide_eq_false c2, e]
      cases decide ((a, b) ∈ ds) <;> rfl



def kr (s : Int) : List Int → Int
  | [] => 1
  | [a] => a
  | a :: b :: l => a * kr s (b :: l) + s * kr s l
def kt (s : Int) : List Int → Int
  | [] => 0
  | _ :: l => kr s l
theorem kr_cons (s a : Int) (l : List Int) : kr s (a :: l) = a * kr s l + s * kt s l := by
  cases l with
  | nil => simp [kr, kt]
  | cons b l => rfl
theorem kt_cons (s a : Int) (l : List Int) : kt s (a :: l) = kr s l := rfl
structure MinusOf (num den : Int) (l : List Int) : Prop where
  ne : l ≠ []
  k : kr (-1) l = num
  t : kt (-1) l = den
  two : ∀ x ∈ l.tail, 2 ≤ x
  one : ∀ x ∈ l.head?, 1 ≤ x
  far : den < num → ∀ x ∈ l.head?, 2 ≤ x
theorem upQ_two {num den : Int} (h1 : 1 ≤ den) (h : den < num) : 2 ≤ upQ num den := by
  unfold upQ
  exact Int.le_ediv_of_mul_le (by omega) (by omega)
theorem upQ_one {num den : Int} (h1 : 1 ≤ den) (h : 1 ≤ num) : 1 ≤ upQ num den := by
  unfold upQ
  exact Int.le_ediv_of_mul_le (by omega) (by omega)
theorem MinusOf.cons {num den : Int} {l : List Int} (h1 : 1 ≤ num) (h2 : 1 ≤ den) (hr : upQ num den * den - num < den) (h : MinusOf den (upQ num den * den - num) l) : MinusOf num den (upQ num den :: l) := by
  refine ⟨by simp, by rw [kr_cons, h.k, h.t]; omega, by rw [kt_cons, h.k], fun x hx => ?_, fun x hx => ?_, fun hl x hx => ?_⟩
  · cases l with
    | nil => exact absurd rfl h.ne
    | cons b l =>
      simp only [List.tail_cons, List.mem_cons] at hx
      rcases hx with rfl | hx
      · exact h.far hr x rfl
      · exact h.two x hx
  · simp at hx; subst hx; exact upQ_one h2 h1
  · simp at hx; subst hx; exact upQ_two h2 hl
structure PlusOf (num den : Int) (l : List Int) : Prop where
  ne : l ≠ []
  k : kr 1 l = num
  t : kt 1 l = den
  pos : den ≤ num → ∀ x ∈ l, 1 ≤ x
  far : den < num → ∀ x ∈ l.getLast?, 2 ≤ x
theorem PlusOf.cons {num den q r : Int} {l : List Int} (h2 : 1 ≤ den) (hr0 : 0 < r) (hr : r < den) (e : q * den + r = num) (h : PlusOf den r l) : PlusOf num den (q :: l) := by
  refine ⟨by simp, by rw [kr_cons, h.k, h.t]; omega, by rw [kt_cons, h.k], fun hl x hx => ?_, fun hl x hx => ?_⟩
  · simp only [List.mem_cons] at hx
    rcases hx with rfl | hx
    · refine Int.not_lt.1 fun hq => ?_
      have : x * den ≤ 0 * den := Int.mul_le_mul_of_nonneg_right (by omega) (by omega)
      omega
    · exact h.pos (by omega) x hx
  · cases l with
    | nil => exact absurd rfl h.ne
    | cons b l =>
      rw [List.getLast?_cons_cons] at hx
      exact h.far hr x hx



def A4 (a : Int) : M4 := (a, -1, 1, 0)
def MM : List Int → M4
  | [] => one4
  | a :: l => mul4 (A4 a) (MM l)
theorem mul4_assoc (a b c : M4) : mul4 (mul4 a b) c = mul4 a (mul4 b c) := by
  obtain ⟨a1, a2, a3, a4⟩ := a
  obtain ⟨b1, b2, b3, b4⟩ := b
  obtain ⟨c1, c2, c3, c4⟩ := c
  simp only [mul4, Prod.mk.injEq]
  refine ⟨?_, ?_, ?_, ?_⟩ <;> grind
theorem mul4_one (a : M4) : mul4 one4 a = a := by
  obtain ⟨a1, a2, a3, a4⟩ := a
  simp [mul4, one4]
theorem mul4_one' (a : M4) : mul4 a one4 = a := by
  obtain ⟨a1, a2, a3, a4⟩ := a
  simp [mul4, one4]
theorem MM_append : ∀ l m : List Int, MM (l ++ m) = mul4 (MM l) (MM m)
  | [], m => by rw [List.nil_append]; exact (mul4_one _).symm
  | a :: l, m => by rw [List.cons_append, MM, MM, MM_append l m, mul4_assoc]
def clo (e : Int) (l : List Int) : Prop := MM l = (e, 0, 0, e)
theorem clo_rot1 {e a : Int} {t : List Int} : clo e (a :: t) ↔ clo e (t ++ [a]) := by
  unfold clo
  rw [MM_append, MM]
  show _ ↔ mul4 (MM t) (mul4 (A4 a) one4) = _
  rw [mul4_one']
  obtain ⟨p, q, r, s⟩ := MM t
  simp only [mul4, A4, Prod.mk.injEq]
  constructor
  · rintro ⟨h1, h2, h3, h4⟩
    refine ⟨?_, ?_, ?_, ?_⟩ <;> grind
  · rintro ⟨h1, h2, h3, h4⟩
    refine ⟨?_, ?_, ?_, ?_⟩ <;> grind
theorem clo_rot {e : Int} : ∀ p q : List Int, clo e (p ++ q) ↔ clo e (q ++ p)
  | [], q => by simp
  | a :: p, q => by
    rw [List.cons_append, clo_rot1, List.append_assoc, clo_rot p (q ++ [a]), List.append_assoc]
    rfl
def Rot (p q : List Int) : Prop := ∃ a b, p = a ++ b ∧ q = b ++ a
theorem Rot.clo {p q : List Int} {e : Int} (h : Rot p q) : clo e p ↔ clo e q := by
  obtain ⟨a, b, rfl, rfl⟩ := h
  exact clo_rot a b
theorem Rot.sum {p q : List Int} (h : Rot p q) : p.sum = q.sum := by
  obtain ⟨a, b, rfl, rfl⟩ := h
  simp only [List.sum_append]; omega
theorem Rot.length {p q : List Int} (h : Rot p q) : p.length = q.length := by
  obtain ⟨a, b, rfl, rfl⟩ := h
  simp only [List.length_append]; omega
theorem inDg_iff {n : Int} {d : Dg} : inDg n d = true ↔ (0 ≤ d.1 ∧ d.1 ≤ n - 1) ∧ (0 ≤ d.2 ∧ d.2 ≤ n - 1) ∧ d.2 - d.1 > 1 ∧ ¬ (d.1 = 0 ∧ d.2 = n - 1) := by
  unfold inDg
  simp [inB_iff, and_assoc]
  intros
  omega
def Gp (o p : List Int) : Prop := o.length = p.length ∧ ∀ i, o.getD i 0 = 0 ∨ o.getD i 0 = p.getD i 0
theorem Gp.refl (p : List Int) : Gp p p := ⟨rfl, fun i => .inr rfl⟩
theorem Gp.trans {o p q : List Int} (h1 : Gp o p) (h2 : Gp p q) : Gp o q := ⟨h1.1.trans h2.1, fun i => by
  rcases h1.2 i with h | h
  · exact .inl h
  · rw [h]; exact h2.2 i⟩
theorem getD_set (l : List Int) (k i : Nat) (v : Int) : (l.set k v).getD i 0 = if k = i ∧ k < l.length then v else l.getD i 0 := by
  rw [List.getD_eq_getElem?_getD, List.getElem?_set]
  by_cases h : k = i
  · subst h
    by_cases h' : k < l.length
    · rw [if_pos rfl, if_pos h', if_pos ⟨rfl, h'⟩]; rfl
    · rw [if_pos rfl, if_neg h', if_neg (by omega), List.getD_eq_getElem?_getD, List.getElem?_eq_none (by omega)]
  · rw [if_neg h, if_neg (by omega), List.getD_eq_getElem?_getD]
theorem Gp.set {o p : List Int} (h : Gp o p) (k : Nat) : Gp (o.set k 0) p := ⟨by rw [List.length_set]; exact h.1, fun i => by
  rw [getD_set]
  split
  · exact .inl rfl
  · exact h.2 i⟩
theorem tri_rng {n : Nat} {ds : List Dg} (h : isTri n ds = true) : (∀ d ∈ ds, 0 ≤ d.1 ∧ d.1 + 1 < d.2 ∧ d.2 < n ∧ ¬ (d.1 = 0 ∧ d.2 = n - 1)) ∧ ds.Nodup ∧ (ds.length : Int) = n - 3 ∧ 3 ≤ n ∧ n ≤ 12 := by
  obtain ⟨g1, g2, g3, g4⟩ := (isTri_iff _ _).1 h
  refine ⟨fun d hd => ?_, ?_, g2, by omega, by omega⟩
  · have := inDg_iff.1 (g3 d hd)
    omega
  · exact g4.imp fun {a b} hh e => by subst e; simp [ltD] at hh
end Go.Proofs.W
