import Derived.Test.YtppalpflejcjeaaGreatQCcWk2
set_option linter.unusedVariables false
set_option linter.unusedSimpArgs false
set_option maxRecDepth 100000
set_option maxHeartbeats 4000000
namespace Go.Proofs.W
open Go Go.Gm Go.Proofs
open Go.RowKit Go.Shelf
theorem sum_perm_int {l m : List Int} (h : l.Perm m) : l.sum = m.sum := by
 induction h with
 | nil => rfl
 | cons x _ ih => rw [List.sum_cons, List.sum_cons, ih]
 | swap x y l => rw [List.sum_cons, List.sum_cons, List.sum_cons, List.sum_cons]; omega
 | trans _ _ ih1 ih2 => rw [ih1, ih2]
theorem isCut_iff {n : Int} {ds : List Dg} : isCut n ds = true ↔ (3 ≤ n ∧ n ≤ 12) ∧ (ds.length : Int) + 3 ≤ n ∧ CutD n.toNat ds ∧ ds.Pairwise fun d e => ltD d e = true := by
 constructor
 ·intro h
  obtain ⟨k, rfl, h3, h12, hl, hc⟩ := isCut_cut h
  refine ⟨by omega, by omega, hc, ?_⟩
  unfold isCut at h
  rw [Bool.and_eq_true, bad_iff] at h
  exact h.2.2.imp fun hh => hh.1
 ·rintro ⟨h1, h2, hc, hs⟩
  unfold isCut
  rw [Bool.and_eq_true, Bool.and_eq_true, inB_iff, decide_eq_true_eq, bad_iff]
  refine ⟨⟨by omega, by omega⟩, fun d hd => ?_, (hs.and hc.2).imp fun {d e} hh => ⟨hh.1, by rw [crossD_comm]; exact hh.2.2⟩⟩
  rw [inDg_iff]
  have := hc.1 d hd
  refine ⟨by omega, by omega, by omega, fun e => this.2.2.2 (Prod.ext (by show d.1 = 0; omega) (by show d.2 = (n.toNat : Int) - 1; omega))⟩
def kr (s : Int) : List Int → Int
 | [] => 1
 | [a] => a
 | a :: b :: l => a * kr s (b :: l) + s * kr s l
def kt (s : Int) : List Int → Int
 | [] => 0
 | _ :: l => kr s l
theorem kr_cons (s a : Int) (l : List Int) : kr s (a :: l) = a * kr s l + s * kt s l := by
 cases l with
 | nil => simp [kr, kt]
 | cons b l => rfl
theorem kt_cons (s a : Int) (l : List Int) : kt s (a :: l) = kr s l := rfl
structure MinusOf (num den : Int) (l : List Int) : Prop where
 ne : l ≠ []
 k : kr (-1) l = num
 t : kt (-1) l = den
 two : ∀ x ∈ l.tail, 2 ≤ x
 one : ∀ x ∈ l.head?, 1 ≤ x
 far : den < num → ∀ x ∈ l.head?, 2 ≤ x
theorem upQ_two {num den : Int} (h1 : 1 ≤ den) (h : den < num) : 2 ≤ upQ num den := by
 unfold upQ
 exact Int.le_ediv_of_mul_le (by omega) (by omega)
theorem upQ_one {num den : Int} (h1 : 1 ≤ den) (h : 1 ≤ num) : 1 ≤ upQ num den := by
 unfold upQ
 exact Int.le_ediv_of_mul_le (by omega) (by omega)
theorem MinusOf.cons {num den : Int} {l : List Int} (h1 : 1 ≤ num) (h2 : 1 ≤ den) (hr : upQ num den * den - num < den) (h : MinusOf den (upQ num den * den - num) l) : MinusOf num den (upQ num den :: l) := by
 refine ⟨by simp, by rw [kr_cons, h.k, h.t]; omega, by rw [kt_cons, h.k], fun x hx => ?_, fun x hx => ?_, fun hl x hx => ?_⟩
 ·cases l with
  | nil => exact absurd rfl h.ne
  | cons b l =>
   simp only [List.tail_cons, List.mem_cons] at hx
   rcases hx with rfl | hx
   ·exact h.far hr x rfl
   ·exact h.two x hx
 ·simp at hx; subst hx; exact upQ_one h2 h1
 ·simp at hx; subst hx; exact upQ_two h2 hl
structure PlusOf (num den : Int) (l : List Int) : Prop where
 ne : l ≠ []
 k : kr 1 l = num
 t : kt 1 l = den
 pos : den ≤ num → ∀ x ∈ l, 1 ≤ x
 far : den < num → ∀ x ∈ l.getLast?, 2 ≤ x
theorem PlusOf.cons {num den q r : Int} {l : List Int} (h2 : 1 ≤ den) (hr0 : 0 < r) (hr : r < den) (e : q * den + r = num) (h : PlusOf den r l) : PlusOf num den (q :: l) := by
 refine ⟨by simp, by rw [kr_cons, h.k, h.t]; omega, by rw [kt_cons, h.k], fun hl x hx => ?_, fun hl x hx => ?_⟩
 ·simp only [List.mem_cons] at hx
  rcases hx with rfl | hx
  ·refine Int.not_lt.1 fun hq => ?_
   have : x * den ≤ 0 * den := Int.mul_le_mul_of_nonneg_right (by omega) (by omega)
   omega
  ·exact h.pos (by omega) x hx
 ·cases l with
  | nil => exact absurd rfl h.ne
  | cons b l =>
   rw [List.getLast?_cons_cons] at hx
   exact h.far hr x hx
def A4 (a : Int) : M4 := (a, -1, 1, 0)
def MM : List Int → M4
 | [] => one4
 | a :: l => mul4 (A4 a) (MM l)
theorem mul4_assoc (a b c : M4) : mul4 (mul4 a b) c = mul4 a (mul4 b c) := by
 obtain ⟨a1, a2, a3, a4⟩ := a
 obtain ⟨b1, b2, b3, b4⟩ := b
 obtain ⟨c1, c2, c3, c4⟩ := c
 simp only [mul4, Prod.mk.injEq]
 refine ⟨?_, ?_, ?_, ?_⟩ <;> grind
theorem mul4_one (a : M4) : mul4 one4 a = a := by
 obtain ⟨a1, a2, a3, a4⟩ := a
 simp [mul4, one4]
theorem mul4_one' (a : M4) : mul4 a one4 = a := by
 obtain ⟨a1, a2, a3, a4⟩ := a
 simp [mul4, one4]
theorem MM_append : ∀ l m : List Int, MM (l ++ m) = mul4 (MM l) (MM m)
 | [], m => by rw [List.nil_append]; exact (mul4_one _).symm
 | a :: l, m => by rw [List.cons_append, MM, MM, MM_append l m, mul4_assoc]
def clo (e : Int) (l : List Int) : Prop := MM l = (e, 0, 0, e)
theorem clo_rot1 {e a : Int} {t : List Int} : clo e (a :: t) ↔ clo e (t ++ [a]) := by
 unfold clo
 rw [MM_append, MM]
 show _ ↔ mul4 (MM t) (mul4 (A4 a) one4) = _
 rw [mul4_one']
 obtain ⟨p, q, r, s⟩ := MM t
 simp only [mul4, A4, Prod.mk.injEq]
 constructor
 ·rintro ⟨h1, h2, h3, h4⟩
  refine ⟨?_, ?_, ?_, ?_⟩ <;> grind
 ·rintro ⟨h1, h2, h3, h4⟩
  refine ⟨?_, ?_, ?_, ?_⟩ <;> grind
theorem clo_rot {e : Int} : ∀ p q : List Int, clo e (p ++ q) ↔ clo e (q ++ p)
 | [], q => by simp
 | a :: p, q => by
  rw [List.cons_append, clo_rot1, List.append_assoc, clo_rot p (q ++ [a]), List.append_assoc]
  rfl
def Rot (p q : List Int) : Prop := ∃ a b, p = a ++ b ∧ q = b ++ a
theorem Rot.clo {p q : List Int} {e : Int} (h : Rot p q) : clo e p ↔ clo e q := by
 obtain ⟨a, b, rfl, rfl⟩ := h
 exact clo_rot a b
theorem Rot.sum {p q : List Int} (h : Rot p q) : p.sum = q.sum := by
 obtain ⟨a, b, rfl, rfl⟩ := h
 simp only [List.sum_append]; omega
theorem Rot.length {p q : List Int} (h : Rot p q) : p.length = q.length := by
 obtain ⟨a, b, rfl, rfl⟩ := h
 simp only [List.length_append]; omega
def Gp (o p : List Int) : Prop := o.length = p.length ∧ ∀ i, o.getD i 0 = 0 ∨ o.getD i 0 = p.getD i 0
theorem Gp.refl (p : List Int) : Gp p p := ⟨rfl, fun i => .inr rfl⟩
theorem Gp.trans {o p q : List Int} (h1 : Gp o p) (h2 : Gp p q) : Gp o q := ⟨h1.1.trans h2.1, fun i => by
 rcases h1.2 i with h | h
 ·exact .inl h
 ·rw [h]; exact h2.2 i⟩
theorem getD_set (l : List Int) (k i : Nat) (v : Int) : (l.set k v).getD i 0 = if k = i ∧ k < l.length then v else l.getD i 0 := by
 rw [List.getD_eq_getElem?_getD, List.getElem?_set]
 by_cases h : k = i
 ·subst h
  by_cases h' : k < l.length
  ·rw [if_pos rfl, if_pos h', if_pos ⟨rfl, h'⟩]; rfl
  ·rw [if_pos rfl, if_neg h', if_neg (by omega), List.getD_eq_getElem?_getD, List.getElem?_eq_none (by omega)]
 ·rw [if_neg h, if_neg (by omega), List.getD_eq_getElem?_getD]
theorem Gp.set {o p : List Int} (h : Gp o p) (k : Nat) : Gp (o.set k 0) p := ⟨by rw [List.length_set]; exact h.1, fun i => by
 rw [getD_set]
 split
 ·exact .inl rfl
 ·exact h.2 i⟩
def chI (n k : Int) : Int := if 0 ≤ k ∧ k ≤ n then chA n k.toNat 0 1 else 0
def cosD : Int → List Int → List Dg
 | _, [] => []
 | _, [_] => []
 | last, a :: b :: t => (0, last + a - 2) :: cosD (last + a - 2) (b :: t)
def cosL (last : Int) (l : List Int) : Int := l.foldl (fun s a => s + a - 2) last
theorem cosL_eq : ∀ (l : List Int) (last : Int), cosL last l = last + l.sum - 2 * (l.length : Int)
 | [], last => by simp [cosL]
 | a :: t, last => by
  have := cosL_eq t (last + a - 2)
  unfold cosL at this ⊢
  rw [List.foldl_cons, this, List.sum_cons, List.length_cons]
  omega
theorem cosL_le (l : List Int) (h : ∀ a ∈ l, 3 ≤ a) (last : Int) : last + (l.length : Int) ≤ cosL last l := by
 rw [cosL_eq]
 have : ∀ l : List Int, (∀ a ∈ l, 3 ≤ a) → 3 * (l.length : Int) ≤ l.sum := by
  intro l
  induction l with
  | nil => intro _; simp
  | cons a t ih => intro h; have := ih fun x hx => h x (by simp [hx]); have := h a (by simp); rw [List.length_cons, List.sum_cons]; omega
 have := this l h
 omega
theorem cosD_spec : ∀ (l : List Int) (last : Int), (∀ a ∈ l, 3 ≤ a) → (∀ d ∈ cosD last l, d.1 = 0 ∧ last + 1 ≤ d.2 ∧ d.2 + 1 ≤ cosL last l) ∧ (cosD last l).Pairwise (fun d e => d.2 < e.2) ∧ (cosD last l).length = l.length - 1
 | [], last, h => by simp [cosD]
 | [a], last, h => by simp [cosD]
 | a :: b :: t, last, h => by
  obtain ⟨i1, i2, i3⟩ := cosD_spec (b :: t) (last + a - 2) fun x hx => h x (by simp [hx])
  have ha := h a (by simp)
  have hL : cosL last (a :: b :: t) = cosL (last + a - 2) (b :: t) := rfl
  have hle := cosL_le (b :: t) (fun x hx => h x (by simp [hx])) (last + a - 2)
  rw [List.length_cons] at hle
  unfold cosD
  refine ⟨fun d hd => ?_, List.pairwise_cons.2 ⟨fun d hd => ?_, i2⟩, by rw [List.length_cons, i3]; simp⟩
  ·rw [hL]
   rcases List.mem_cons.1 hd with rfl | hd
   ·exact ⟨rfl, by show last + 1 ≤ last + a - 2; omega, by show last + a - 2 + 1 ≤ _; omega⟩
   ·have := i1 d hd
    omega
  ·have := i1 d hd
   show last + a - 2 < d.2
   omega
theorem cos_cut {l : List Int} (hn : l ≠ []) (h : ∀ a ∈ l, 3 ≤ a) (hL : cosL 1 l ≤ 11) : isCut (cosL 1 l + 1) (cosD 1 l) = true ∧ (szL (cosL 1 l + 1).toNat (cosD 1 l)).length = l.length ∧ (szL (cosL 1 l + 1).toNat (cosD 1 l)).sum = l.sum := by
 obtain ⟨i1, i2, i3⟩ := cosD_spec l 1 h
 have hle := cosL_le l h 1
 have he := cosL_eq l 1
 have hpos : 0 < l.length := List.length_pos_iff.2 hn
 have hlt : (cosD 1 l).Pairwise fun d e => ltD d e = true := i2.imp_of_mem fun {d e} hd he' hh => ltD_iff.2 (.inr ⟨by rw [(i1 d hd).1, (i1 e he').1], hh⟩)
 have hc : CutD (cosL 1 l + 1).toNat (cosD 1 l) := by
  refine ⟨fun d hd => ?_, i2.imp_of_mem fun {d e} hd he' hh => ⟨fun e1 => ?_, ?_⟩⟩
  ·have := i1 d hd
   refine ⟨by omega, by omega, by omega, fun e => ?_⟩
   have e2 := congrArg Prod.snd e
   unfold wholeD at e2
   dsimp only at e2
   omega
  ·subst e1; omega
  ·have h1 := i1 d hd
   have h2 := i1 e he'
   rw [Bool.eq_false_iff, ne_eq]
   unfold crossD
   simp only [Bool.or_eq_true, Bool.and_eq_true, decide_eq_true_eq]
   omega
 refine ⟨isCut_iff.2 ⟨by omega, by omega, hc, hlt⟩, ?_, ?_⟩
 ·rw [szL_len hc (by omega), i3]; omega
 ·rw [szL_sum hc (by omega), i3]; omega
def cutsK (n k : Nat) : List (List Dg) := lookL k (dgL n) []
def lexD : List Dg → List Dg → Bool
 | [], [] => false
 | [], _ :: _ => true
 | _ :: _, [] => false
 | a :: s, b :: t => if a = b then lexD s t else ltD a b
def adjD : List (List Dg) → Bool
 | a :: b :: t => lexD a b && adjD (b :: t)
 | _ => true
theorem cutsK_ok : ∀ n : Nat, n ≤ 8 → ∀ k : Nat, k ≤ 5 → 3 ≤ n → k + 3 ≤ n → ((cutsK n k).all fun ds => isCut n ds && decide (ds.length = k)) = true ∧ adjD (cutsK n k) = true := by decide +kernel
def eqC (n : Nat) (size : Nat) (ds : List Dg) : Bool := (implP n ds).all fun p => p.length == size
theorem eqC_szL {n : Nat} {ds : List Dg} (h : CutD n ds) (hn : 3 ≤ n) (size : Nat) : ((szL n ds).all fun s => s == (size : Int)) = eqC n size ds := by
 rw [Bool.eq_iff_iff]
 unfold eqC szL
 rw [List.all_eq_true, List.all_eq_true]
 have hm : ∀ p, p ∈ sortL (specP n ds) ↔ p ∈ implP n ds := fun p => ((sortL_perm _).trans (pieces_same hn h).symm).mem_iff
 constructor
 ·intro hh p hp
  have := hh _ (List.mem_map_of_mem ((hm p).2 hp))
  rw [beq_iff_eq] at this ⊢
  omega
 ·intro hh s hs
  obtain ⟨p, hp, rfl⟩ := List.mem_map.1 hs
  have := hh p ((hm p).1 hp)
  rw [beq_iff_eq] at this ⊢
  omega
def F53_sh : FSh := ⟨[(.one (.sl (.pair (.int .i64) (.int .i64)) false false)), (.one (.pf 0 0 0))], [(.rcd 0 [(.rw 1 0)]), (.row 0 (.list true (.pair (.int .i64) (.int .i64))))]⟩
def F53_fo : List FO := [⟨[], [(.rcd 0 [(.rw 1 1)]), (.row 1 (.list true (.pair (.int .i64) (.int .i64))))]⟩]
noncomputable def F53_t : ((List ((Int × Int)) × Unit) × (Unit × List (List ((Int × Int))))) → T (Unit × (Unit × List (List ((Int × Int))))) := fun ((ds, ()), ((), t1_r)) =>
 (.sub (F9 ds) fun z0 =>
 (.test (decide ((0 + z0.2.length) ≤ z0.2.length))
 (.test (decide (1 ≤ 1))
 (.test (decide ((0 + t1_r.length) ≤ t1_r.length))
 (.test (decide ((2 * ((t1_r.length + 1) * 25)) ≤ 140737488355328))
 (.test (decide ((0 = 0) ∧ ((t1_r.length + 1) = (List.length ((win t1_r 0 t1_r.length) ++ [(win z0.2 0 z0.2.length)])))))
 (.ret ((), ((), ((win t1_r 0 t1_r.length) ++ [(win z0.2 0 z0.2.length)]))))
 .fail)
 .fail)
 .fail)
 .fail)
 .fail))
noncomputable def F53 (v) := (F53_t v).run
noncomputable def F53_E : TEnv := (E0.add1 n_F9 F9_sh F9_fo F9)
theorem F53_Eok : (F53_E).OK := (E0ok.add1 F9_ok)
noncomputable def F53_told : Nat → Option SealT := fun id => none
theorem F53_ok : FOK Tryz.prog n_F53 F53_sh F53_fo F53 :=
 fn_ok (E := F53_E) (F53_Eok) (told := F53_told) (fl := []) (c := bodyOf fn_F53) (s := F53_sh) (l := F53_fo) (tree := F53_t) fnat_F53 (by kernel_rfl) (by kernel_rfl) (by kernel_rfl) (loopsOK_of (ls := []) (by kernel_rfl) trivial) (fun v => by kernel_rfl)
theorem F53_eq {ds : List Dg} (hl : ds.length ≤ 1000) (out : List (List Dg)) (ho : out.length ≤ 1000000000) : F53 ((ds, ()), ((), out)) = some ((), ((), out ++ [ds])) := by
 rw [F53, F53_t, T.run_sub, clone_D hl, Option.bind_some, T.run_test, if_pos (by simp), T.run_test, if_pos (by rfl), T.run_test, if_pos (by simp), T.run_test, if_pos (decide_eq_true (by omega)), T.run_test, if_pos (by simp [win_all]), T.run_ret]
 simp only [win_all]
def F68_sh : FSh := ⟨[(.ag [(.si .i64), (.si .i64)]), (.ag [(.si .i64), (.si .i64)])], []⟩
def F68_fo : List FO := [⟨[(.one .sb)], []⟩]
noncomputable def F68_t : ((Int × Int) × (Int × Int)) → T Bool := fun ((d_0, d_1), (e_0, e_1)) =>
 (.test (decide (d_0 < e_0))
 (.test (decide (e_0 < d_1))
 (.test (decide (d_1 < e_1))
 (.ret true)
 (.test (decide (e_0 < d_0))
 (.test (decide (d_0 < e_1))
 (.ret (decide (e_1 < d_1)))
 (.ret false))
 (.ret false)))
 (.test (decide (e_0 < d_0))
 (.test (decide (d_0 < e_1))
 (.ret (decide (e_1 < d_1)))
 (.ret false))
 (.ret false)))
 (.test (decide (e_0 < d_0))
 (.test (decide (d_0 < e_1))
 (.ret (decide (e_1 < d_1)))
 (.ret false))
 (.ret false)))
noncomputable def F68 (v) := (F68_t v).run
noncomputable def F68_E : TEnv := E0
theorem F68_Eok : (F68_E).OK := E0ok
noncomputable def F68_told : Nat → Option SealT := fun id => none
theorem F68_ok : FOK Tryz.prog n_F68 F68_sh F68_fo F68 :=
 fn_ok (E := F68_E) (F68_Eok) (told := F68_told) (fl := []) (c := bodyOf fn_F68) (s := F68_sh) (l := F68_fo) (tree := F68_t) fnat_F68 (by kernel_rfl) (by kernel_rfl) (by kernel_rfl) (loopsOK_of (ls := []) (by kernel_rfl) trivial) (fun v => by kernel_rfl)
theorem F68_eq (d e : Dg) : F68 (d, e) = some (crossD d e) := by
 obtain ⟨a, b⟩ := d
 obtain ⟨c, f⟩ := e
 simp only [F68, F68_t, T.run, crossD]
 by_cases h1 : a < c <;> by_cases h2 : c < b <;> by_cases h3 : b < f <;> by_cases h4 : c < a <;> by_cases h5 : a < f <;> by_cases h6 : f < b <;> simp [h1, h2, h3, h4, h5, h6]
def F54_sh : FSh := ⟨[(.ag [(.si .i64), (.si .i64)]), (.one (.pf 0 0 0))], [(.rcd 0 [(.si .i64), (.si .i64)])]⟩
def F54_fo : List FO := [⟨[(.one .sb)], [(.rcd 0 [(.si .i64), (.si .i64)])]⟩]
noncomputable def F54_t : (((Int × Int) × Unit) × (Int × Int)) → T (Bool × (Int × Int)) := fun (((e_0, e_1), ()), (t1_0, t1_1)) =>
 (.sub (F68 ((t1_0, t1_1), (e_0, e_1))) fun z0 =>
 (.ret (z0, (t1_0, t1_1))))
noncomputable def F54 (v) := (F54_t v).run
noncomputable def F54_E : TEnv := (E0.add1 n_F68 F68_sh F68_fo F68)
theorem F54_Eok : (F54_E).OK := (E0ok.add1 F68_ok)
noncomputable def F54_told : Nat → Option SealT := fun id => none
theorem F54_ok : FOK Tryz.prog n_F54 F54_sh F54_fo F54 :=
 fn_ok (E := F54_E) (F54_Eok) (told := F54_told) (fl := []) (c := bodyOf fn_F54) (s := F54_sh) (l := F54_fo) (tree := F54_t) fnat_F54 (by kernel_rfl) (by kernel_rfl) (by kernel_rfl) (loopsOK_of (ls := []) (by kernel_rfl) trivial) (fun v => by kernel_rfl)
def F2_sh : FSh := ⟨[(.one (.sl (.pair (.int .i64) (.int .i64)) false false)), (.clo n_F54 [(.one (.pf 0 0 0))])], [(.rcd 0 [(.si .i64), (.si .i64)])]⟩
def F2_L2_sh : LSh := ⟨(fun ex => match ex with | .norm => [(0, none), (1, none), (7, none), (8, none)] | .exit i => if i = 0 then [] else [] | .ret => [(4, none)]), [(0, (.one (.sl (.pair (.int .i64) (.int .i64)) false false))), (1, (.clo n_F54 [(.one (.pf 0 0 0))])), (7, (.one (.si .i64))), (8, (.one (.si .i64)))], [(.rcd 0 [(.si .i64), (.si .i64)])], [⟨.ret, [(4, (.one (.si .i64)))], [(.rcd 0 [(.si .i64), (.si .i64)])]⟩, ⟨(.exit 0), [], [(.rcd 0 [(.si .i64), (.si .i64)])]⟩], [], []⟩
noncomputable def F2_L2_step : ((List ((Int × Int)) × Unit × Int × Int) × (Int × Int)) → T (((List ((Int × Int)) × Unit × Int × Int) × (Int × Int)) ⊕ ((Int × (Int × Int)) ⊕ (Unit × (Int × Int)))) := fun ((s, (), t7, t8), (r0_0, r0_1)) =>
 (.test (decide (t8 < t7))
 (.test (decide ((0 ≤ t8) ∧ (t8 < (s.length : Int))))
 (.sub (s[(Int.toNat t8)]?) fun z0 =>
 (.sub (F54 (((z0.1, z0.2), ()), (r0_0, r0_1))) fun z1 =>
 (.test z1.1
 (.ret (Sum.inr (Sum.inl (t8, (z1.2.1, z1.2.2)))))
 (.ret (Sum.inl ((s, ((), (t7, (w64 (t8 + 1))))), (z1.2.1, z1.2.2)))))))
 .fail)
 (.ret (Sum.inr (Sum.inr ((), (r0_0, r0_1))))))
noncomputable def F2_L2 (v) := loopO (fun v => (F2_L2_step v).run) v
def F2_fo : List FO := [⟨[(.one (.si .i64))], [(.rcd 0 [(.si .i64), (.si .i64)])]⟩]
noncomputable def F2_t : ((List ((Int × Int)) × Unit) × (Int × Int)) → T (Int × (Int × Int)) := fun ((s, ()), (r0_0, r0_1)) =>
 (.sub (F2_L2 ((s, ((), ((s.length : Int), (0 : Int)))), (r0_0, r0_1))) fun z0 =>
 (.test (Sum.isLeft z0)
 (.sub (Sum.getLeft? z0) fun z1 =>
 (.ret (z1.1, (z1.2.1, z1.2.2))))
 (.sub (Sum.getRight? z0) fun z2 =>
 (.ret ((-1), (z2.2.1, z2.2.2))))))
noncomputable def F2 (v) := (F2_t v).run
noncomputable def F2_E : TEnv := (E0.add1 n_F54 F54_sh F54_fo F54)
theorem F2_Eok : (F2_E).OK := (E0ok.add1 F54_ok)
noncomputable def F2_told : Nat → Option SealT := fun id => if id = 2 then some (LSh.told F2_L2_sh 1 (F2_L2_step)) else none
theorem F2_L2_ok : ToldOK Tryz.prog 1 (loopAt (bodyOf fn_F8) [0]) (LSh.told F2_L2_sh 1 (F2_L2_step)) :=
 loop_ok (E := F2_E) (F2_Eok) (told := F2_told) (l := F2_L2_sh) (step := F2_L2_step) (loopsOK_of (ls := []) (by kernel_rfl) trivial) (by kernel_rfl) (fun v => by kernel_rfl)
theorem F2_ok : FOK Tryz.prog n_F8 F2_sh F2_fo F2 :=
 fn_ok (E := F2_E) (F2_Eok) (told := F2_told) (fl := []) (c := bodyOf fn_F8) (s := F2_sh) (l := F2_fo) (tree := F2_t) fnat_F8 (by kernel_rfl) (by kernel_rfl) (by kernel_rfl) (loopsOK_of (ls := [loopAt (bodyOf fn_F8) [0]]) (by kernel_rfl) ⟨.inr ⟨_, by kernel_rfl, F2_L2_ok⟩, trivial⟩) (fun v => by kernel_rfl)
def F0_sh : FSh := ⟨[(.one (.sl (.pair (.int .i64) (.int .i64)) false false)), (.clo n_F54 [(.one (.pf 0 0 0))])], [(.rcd 0 [(.si .i64), (.si .i64)])]⟩
def F0_fo : List FO := [⟨[(.one .sb)], [(.rcd 0 [(.si .i64), (.si .i64)])]⟩]
noncomputable def F0_t : ((List ((Int × Int)) × Unit) × (Int × Int)) → T (Bool × (Int × Int)) := fun ((s, ()), (r0_0, r0_1)) =>
 (.sub (F2 ((s, ()), (r0_0, r0_1))) fun z0 =>
 (.ret ((decide (z0.1 ≥ 0)), (z0.2.1, z0.2.2))))
noncomputable def F0 (v) := (F0_t v).run
noncomputable def F0_E : TEnv := (E0.add1 n_F8 F2_sh F2_fo F2)
theorem F0_Eok : (F0_E).OK := (E0ok.add1 F2_ok)
noncomputable def F0_told : Nat → Option SealT := fun id => none
theorem F0_ok : FOK Tryz.prog n_F5 F0_sh F0_fo F0 :=
 fn_ok (E := F0_E) (F0_Eok) (told := F0_told) (fl := []) (c := bodyOf fn_F5) (s := F0_sh) (l := F0_fo) (tree := F0_t) fnat_F5 (by kernel_rfl) (by kernel_rfl) (by kernel_rfl) (loopsOK_of (ls := []) (by kernel_rfl) trivial) (fun v => by kernel_rfl)
theorem F0_eq (s : List Dg) (d : Dg) (hl : s.length < 4611686018427387904) : F0 ((s, ()), d) = some (s.any (crossD d), d) := by
 obtain ⟨a, b⟩ := d
 have hc : ∀ e : Dg, F54 ((e, ()), (a, b)) = some (crossD (a, b) e, (a, b)) := by
  intro e
  obtain ⟨e0, e1⟩ := e
  simp [F54, F54_t, T.run, F68_eq]
 have h := loop_find (step := fun v => (F2_L2_step v).run) (xs := s) (crossD (a, b)) (fun k => ((s, ((), ((s.length : Int), (k : Int)))), (a, b))) (fun k => .inl ((k : Int), (a, b))) (.inr ((), (a, b)))
  (fun k x hx => by
   have hlt := getElem?_lt hx
   have h1 : (k : Int) < (s.length : Int) := by omega
   have h2 : (0 : Int) ≤ k ∧ (k : Int) < (s.length : Int) := by omega
   simp only [F2_L2_step, T.run, Int.toNat_natCast, hx, Option.bind_some, h1, h2, decide_true, if_true, and_self, hc]
   rw [w64_id (z := (k : Int) + 1) (by omega) (by omega)]
   cases hv : crossD (a, b) x <;> simp)
  (by simp [F2_L2_step, T.run])
 rw [show ((0 : Nat) : Int) = 0 from rfl] at h
 have hi : F2 ((s, ()), (a, b)) = some (idxI (crossD (a, b)) s, (a, b)) := by
  simp only [F2, F2_t, T.run, F2_L2]
  rw [h]
  simp only [idxI]
  cases hf : s.findIdx? (crossD (a, b)) <;> simp [Sum.isLeft]
 simp only [F0, F0_t, T.run, hi, Option.bind_some, idxI_ge]
def F69_sh : FSh := ⟨[(.one (.sl (.pair (.int .i64) (.int .i64)) false false)), (.ag [(.si .i64), (.si .i64)])], []⟩
def F69_fo : List FO := [⟨[(.one .sb)], []⟩]
noncomputable def F69_t : (List ((Int × Int)) × (Int × Int)) → T Bool := fun (ds, (d_0, d_1)) =>
 (.sub (F0 ((ds, ()), (d_0, d_1))) fun z0 =>
 (.ret z0.1))
noncomputable def F69 (v) := (F69_t v).run
noncomputable def F69_E : TEnv := (E0.add1 n_F5 F0_sh F0_fo F0)
theorem F69_Eok : (F69_E).OK := (E0ok.add1 F0_ok)
noncomputable def F69_told : Nat → Option SealT := fun id => none
theorem F69_ok : FOK Tryz.prog n_F69 F69_sh F69_fo F69 :=
 fn_ok (E := F69_E) (F69_Eok) (told := F69_told) (fl := []) (c := bodyOf fn_F69) (s := F69_sh) (l := F69_fo) (tree := F69_t) fnat_F69 (by kernel_rfl) (by kernel_rfl) (by kernel_rfl) (loopsOK_of (ls := []) (by kernel_rfl) trivial) (fun v => by kernel_rfl)
theorem F69_eq (s : List Dg) (d : Dg) (hl : s.length < 4611686018427387904) : F69 (s, d) = some (s.any (crossD d)) := by
 obtain ⟨a, b⟩ := d
 rw [F69, F69_t, T.run_sub, F0_eq s (a, b) hl, Option.bind_some, T.run_ret]
def F14_sh : FSh := ⟨[(.one (.sl (.pair (.int .i64) (.int .i64)) false false)), (.one (.sl (.pair (.int .i64) (.int .i64)) false false)), (.one (.si .i64)), (.one (.si .i64)), (.clo n_F53 [(.one (.pf 0 0 0))])], [(.rcd 0 [(.rw 1 0)]), (.row 0 (.list true (.pair (.int .i64) (.int .i64))))]⟩
def F14_fo : List FO := [⟨[], [(.rcd 0 [(.rw 1 1)]), (.row 1 (.list true (.pair (.int .i64) (.int .i64))))]⟩]
def F14_L3_sh : LSh := ⟨(fun ex => match ex with | .norm => [(0, none), (1, none), (3, none), (4, none), (10, none)] | .exit i => if i = 0 then [] else [] | .ret => []), [(0, (.one (.sl (.pair (.int .i64) (.int .i64)) false false))), (1, (.one (.sl (.pair (.int .i64) (.int .i64)) false false))), (3, (.one (.si .i64))), (4, (.clo n_F53 [(.one (.pf 0 0 0))])), (10, (.one (.si .i64)))], [(.rcd 0 [(.rw 1 1)]), (.row 1 (.list true (.pair (.int .i64) (.int .i64))))], [⟨(.exit 0), [], [(.rcd 0 [(.rw 1 1)]), (.row 1 (.list true (.pair (.int .i64) (.int .i64))))]⟩], [], [1]⟩
noncomputable def F14_L3_step (recv : ((List ((Int × Int)) × List ((Int × Int)) × Int × Int × Unit) × (Unit × List (List ((Int × Int))))) → Option (Unit × (Unit × List (List ((Int × Int)))))) : ((List ((Int × Int)) × List ((Int × Int)) × Int × Unit × Int) × (Unit × List (List ((Int × Int))))) → T (((List ((Int × Int)) × List ((Int × Int)) × Int × Unit × Int) × (Unit × List (List ((Int × Int))))) ⊕ (Unit × (Unit × List (List ((Int × Int)))))) := fun ((all, begin, more, (), i), ((), r0_r)) =>
 (.test (decide (i < (all.length : Int)))
 (.test (decide ((0 ≤ i) ∧ (i < (all.length : Int))))
 (.sub (all[(Int.toNat i)]?) fun z0 =>
 (.sub (F69 (begin, z0)) fun z1 =>
 (.test (! z1)
 (.test (decide (0 ≤ (begin.length : Int)))
 (.test (decide (0 ≤ (begin.length : Int)))
 (.test (decide ((0 ≤ (Int.toNat (begin.length : Int))) ∧ (((Int.toNat (begin.length : Int)) = (Int.toNat (begin.length : Int))) ∧ ((Int.toNat (begin.length : Int)) ≤ begin.length))))
 (.test (decide ((0 ≤ i) ∧ (i < (all.length : Int))))
 (.sub (all[(Int.toNat i)]?) fun z2 =>
 (.test (decide (1 ≤ 1))
 (.test (decide (¬ ((1 = 0) ∧ ((List.length (win begin 0 ((Int.toNat (begin.length : Int)) - 0))) ≠ 0))))
 (.test (decide ((2 * (((List.length (win begin 0 ((Int.toNat (begin.length : Int)) - 0))) + 1) * (16 + 1))) ≤ 140737488355328))
 (.test (decide ((0 + ((List.length (win begin 0 ((Int.toNat (begin.length : Int)) - 0))) + 1)) ≤ (List.length ((win begin 0 ((Int.toNat (begin.length : Int)) - 0)) ++ [z2]))))
 (.test (decide ((0 = 0) ∧ (r0_r.length = r0_r.length)))
 (.sub (recv ((all, ((win ((win begin 0 ((Int.toNat (begin.length : Int)) - 0)) ++ [z2]) 0 ((List.length (win begin 0 ((Int.toNat (begin.length : Int)) - 0))) + 1)), ((w64 (i + 1)), ((w64 (more - 1)), ())))), ((), r0_r))) fun z3 =>
 (.test (decide ((0 = 0) ∧ (z3.2.2.length = z3.2.2.length)))
 (.ret (Sum.inl ((all, (begin, (more, ((), (w64 (i + 1)))))), ((), z3.2.2))))
 .fail))
 .fail)
 .fail)
 .fail)
 .fail)
 .fail))
 .fail)
 .fail)
 .fail)
 .fail)
 (.test (decide ((0 = 0) ∧ (r0_r.length = r0_r.length)))
 (.ret (Sum.inl ((all, (begin, (more, ((), (w64 (i + 1)))))), ((), r0_r))))
 .fail))))
 .fail)
 (.test (decide ((0 = 0) ∧ (r0_r.length = r0_r.length)))
 (.ret (Sum.inr ((), ((), r0_r))))
 .fail))
noncomputable def F14_L3 (recv : ((List ((Int × Int)) × List ((Int × Int)) × Int × Int × Unit) × (Unit × List (List ((Int × Int))))) → Option (Unit × (Unit × List (List ((Int × Int)))))) (v : ((List ((Int × Int)) × List ((Int × Int)) × Int × Unit × Int) × (Unit × List (List ((Int × Int)))))) : Option (Unit × (Unit × List (List ((Int × Int))))) := loopO (fun v => (F14_L3_step recv v).run) v
noncomputable def F14_t (recv : ((List ((Int × Int)) × List ((Int × Int)) × Int × Int × Unit) × (Unit × List (List ((Int × Int))))) → Option (Unit × (Unit × List (List ((Int × Int)))))) : ((List ((Int × Int)) × List ((Int × Int)) × Int × Int × Unit) × (Unit × List (List ((Int × Int))))) → T (Unit × (Unit × List (List ((Int × Int))))) := fun ((all, begin, from', more, ()), ((), r0_r)) =>
 (.test (more == 0)
 (.test (decide ((0 = 0) ∧ (r0_r.length = r0_r.length)))
 (.sub (F53 ((begin, ()), ((), r0_r))) fun z0 =>
 (.test (decide ((0 = 0) ∧ (z0.2.2.length = z0.2.2.length)))
 (.ret ((), ((), z0.2.2)))
 .fail))
 .fail)
 (.test (decide ((0 = 0) ∧ (r0_r.length = r0_r.length)))
 (.sub (F14_L3 recv ((all, (begin, (more, ((), from')))), ((), r0_r))) fun z1 =>
 (.test (decide ((0 = 0) ∧ (z1.2.2.length = z1.2.2.length)))
 (.ret ((), ((), z1.2.2)))
 .fail))
 .fail))
noncomputable def F14_f (recv : ((List ((Int × Int)) × List ((Int × Int)) × Int × Int × Unit) × (Unit × List (List ((Int × Int))))) → Option (Unit × (Unit × List (List ((Int × Int)))))) (v : ((List ((Int × Int)) × List ((Int × Int)) × Int × Int × Unit) × (Unit × List (List ((Int × Int)))))) : Option (Unit × (Unit × List (List ((Int × Int))))) := (F14_t recv v).run
noncomputable def F14 : ((List ((Int × Int)) × List ((Int × Int)) × Int × Int × Unit) × (Unit × List (List ((Int × Int))))) → Option (Unit × (Unit × List (List ((Int × Int))))) := recF F14_f
noncomputable def F14_E (recv : ((List ((Int × Int)) × List ((Int × Int)) × Int × Int × Unit) × (Unit × List (List ((Int × Int))))) → Option (Unit × (Unit × List (List ((Int × Int)))))) : TEnv := (((E0.add1 n_F53 F53_sh F53_fo F53).add1 n_F69 F69_sh F69_fo F69).add1 n_F116 F14_sh F14_fo recv)
theorem F14_Eok (recv : ((List ((Int × Int)) × List ((Int × Int)) × Int × Int × Unit) × (Unit × List (List ((Int × Int))))) → Option (Unit × (Unit × List (List ((Int × Int)))))) (hrec : FOK Tryz.prog n_F116 F14_sh F14_fo recv) : (F14_E recv).OK := (((E0ok.add1 F53_ok).add1 F69_ok).add1 hrec)
noncomputable def F14_told (recv : ((List ((Int × Int)) × List ((Int × Int)) × Int × Int × Unit) × (Unit × List (List ((Int × Int))))) → Option (Unit × (Unit × List (List ((Int × Int)))))) : Nat → Option SealT := fun id => if id = 3 then some (LSh.told F14_L3_sh 2 (F14_L3_step recv)) else none
theorem F14_L3_ok (recv : ((List ((Int × Int)) × List ((Int × Int)) × Int × Int × Unit) × (Unit × List (List ((Int × Int))))) → Option (Unit × (Unit × List (List ((Int × Int)))))) (hrec : FOK Tryz.prog n_F116 F14_sh F14_fo recv) : ToldOK Tryz.prog 2 (loopAt (bodyOf fn_F116) [0]) (LSh.told F14_L3_sh 2 (F14_L3_step recv)) :=
 loop_ok (E := F14_E recv) (F14_Eok recv hrec) (told := F14_told recv) (l := F14_L3_sh) (step := F14_L3_step recv) (loopsOK_of (ls := []) (by kernel_rfl) trivial) (by kernel_rfl) (fun v => by kernel_rfl)
theorem F14_okr (recv : ((List ((Int × Int)) × List ((Int × Int)) × Int × Int × Unit) × (Unit × List (List ((Int × Int))))) → Option (Unit × (Unit × List (List ((Int × Int)))))) (hrec : FOK Tryz.prog n_F116 F14_sh F14_fo recv) : FOK Tryz.prog n_F116 F14_sh F14_fo (F14_f recv) :=
 fn_ok (E := F14_E recv) (F14_Eok recv hrec) (told := F14_told recv) (fl := []) (c := bodyOf fn_F116) (s := F14_sh) (l := F14_fo) (tree := F14_t recv) fnat_F116 (by kernel_rfl) (by kernel_rfl) (by kernel_rfl) (loopsOK_of (ls := [loopAt (bodyOf fn_F116) [0]]) (by kernel_rfl) ⟨.inr ⟨_, by kernel_rfl, F14_L3_ok recv hrec⟩, trivial⟩) (fun v => by kernel_rfl)
theorem F14_ok : FOK Tryz.prog n_F116 F14_sh F14_fo F14 := FOK.rec (fun F h => F14_okr F h) recLim
theorem F116_all_loop (K : Nat) (t b : List Dg) (recv : _ → Option _) (hn : b.length < K ∧ K ≤ 1000) (ht : t.length ≤ 27) (hb : b.length < 1000) :
  ∀ (m i : Nat) (out : List (List Dg)), i + m = t.length → out.length + 2 ^ m ≤ 1000000000 →
  (∀ (j : Nat) (out : List (List Dg)), i ≤ j → j < t.length → out.length + 2 ^ (t.length - (j + 1)) ≤ 1000000000 →
   recv ((t, (b ++ [gD t j], (((j + 1 : Nat) : Int), (((K - (b.length + 1) : Nat) : Int), ())))), ((), out)) = some ((), ((), out ++ lookL K (t.drop (j + 1)) (b ++ [gD t j])))) →
  F14_L3 recv ((t, (b, (((K - b.length : Nat) : Int), ((), (i : Int))))), ((), out)) = some ((), ((), out ++ goL K (t.drop i) b))
 | 0, i, out, hi, ho, hr => by
  have : i = t.length := by omega
  subst this
  rw [List.drop_length]
  refine loopO_done ?_
  rw [F14_L3_step, T.run_test, if_neg (by rw [decide_eq_true_eq]; omega), T.run_test, if_pos (by simp), T.run_ret]
  simp [goL]
 | m + 1, i, out, hi, ho, hr => by
  have hlt : i < t.length := by omega
  have w1 : w64 ((i : Int) + 1) = ((i + 1 : Nat) : Int) := by rw [w64_id (by omega) (by omega)]; omega
  have wl : w64 (((K - b.length : Nat) : Int) - 1) = ((K - (b.length + 1) : Nat) : Int) := by rw [w64_id (by omega) (by omega)]; omega
  have hp : 2 ^ (m + 1) = 2 ^ m + 2 ^ m := by rw [Nat.pow_succ]; omega
  have hp0 : 1 ≤ 2 ^ m := Nat.one_le_two_pow
  have hm : m = t.length - (i + 1) := by omega
  have hcr := F69_eq b (gD t i) (by omega)
  have eg : goL K (t.drop i) b = (if freeD (gD t i) b then lookL K (t.drop (i + 1)) (b ++ [gD t i]) else []) ++ goL K (t.drop (i + 1)) b := by rw [drop_gD hlt, goL_cons]
  rw [eg]
  cases hf : b.any (crossD (gD t i)) with
  | true =>
   have hfr : freeD (gD t i) b = false := by unfold freeD; rw [hf]; rfl
   have ih := F116_all_loop K t b recv hn ht hb m (i + 1) out (by omega) (by omega) (fun j o h1 h2 h3 => hr j o (by omega) h2 h3)
   rw [hfr]
   simp only [Bool.false_eq_true, if_false, List.nil_append]
   rw [← ih]
   rw [hf] at hcr
   refine loopO_next ?_
   rw [F14_L3_step, T.run_test, if_pos (decide_eq_true (by omega)), T.run_test, if_pos (decide_eq_true (by omega)), T.run_sub, Int.toNat_natCast, gD_some hlt, Option.bind_some, T.run_sub, hcr, Option.bind_some, T.run_test, if_neg (by simp), T.run_test, if_pos (by simp), T.run_ret, w1]
  | false =>
   have hfr : freeD (gD t i) b = true := by unfold freeD; rw [hf]; rfl
   have hrec := hr i out (Nat.le_refl _) hlt (by rw [← hm]; omega)
   have hll := look_pow (t := t) (b := b ++ [gD t i]) (i := i) (k := K) hm
   have ih := F116_all_loop K t b recv hn ht hb m (i + 1) (out ++ lookL K (t.drop (i + 1)) (b ++ [gD t i])) (by omega) (by rw [List.length_append]; omega) (fun j o h1 h2 h3 => hr j o (by omega) h2 h3)
   rw [hfr]
   simp only [if_true]
   rw [← List.append_assoc, ← ih]
   rw [hf] at hcr
   refine loopO_next ?_
   have hw : win (b ++ [gD t i]) 0 (b.length + 1) = b ++ [gD t i] := by
    have := win_all (b ++ [gD t i])
    rwa [List.length_append, List.length_singleton] at this
   rw [F14_L3_step, T.run_test, if_pos (decide_eq_true (by omega)), T.run_test, if_pos (decide_eq_true (by omega)), T.run_sub, Int.toNat_natCast, gD_some hlt, Option.bind_some, T.run_sub, hcr, Option.bind_some, T.run_test, if_pos (by rfl), T.run_test, if_pos (decide_eq_true (by omega)), T.run_test, if_pos (decide_eq_true (by omega)), T.run_test, if_pos (decide_eq_true (by omega)), T.run_test, if_pos (decide_eq_true (by omega)), T.run_sub]
   rw [Int.toNat_natCast, Nat.sub_zero, win_all, Option.bind_some, T.run_test, if_pos (by rfl), T.run_test, if_pos (by simp), T.run_test, if_pos (decide_eq_true (by omega)), T.run_test, if_pos (by simp), T.run_test, if_pos (by simp), T.run_sub, hw, w1, wl, hrec, Option.bind_some, T.run_test, if_pos (by simp), T.run_ret]
theorem F116_all_eq (K : Nat) (hK : K ≤ 40) (t : List Dg) (ht : t.length ≤ 27) : ∀ (k i : Nat) (b : List Dg) (out : List (List Dg)), i ≤ t.length → t.length - i < k → b.length + (t.length - i) < 100 → b.length ≤ K → out.length + 2 ^ (t.length - i) ≤ 1000000000 →
  recN F14_f k ((t, (b, ((i : Int), (((K - b.length : Nat) : Int), ())))), ((), out)) = some ((), ((), out ++ lookL K (t.drop i) b))
 | 0, i, b, out, hi, hk, hb, hbK, ho => absurd hk (Nat.not_lt_zero _)
 | k + 1, i, b, out, hi, hk, hb, hbK, ho => by
  show F14_f (recN F14_f k) _ = _
  have hp : 1 ≤ 2 ^ (t.length - i) := Nat.one_le_two_pow
  rw [F14_f, F14_t, T.run_test]
  by_cases hl : b.length = K
  ·have e : lookL K (t.drop i) b = [b] := by unfold lookL; rw [if_pos hl]
   rw [e]
   rw [if_pos (by simp; omega), T.run_test, if_pos (by simp), T.run_sub, F53_eq (by omega) out (by omega), Option.bind_some, T.run_test, if_pos (by simp), T.run_ret]
  ·have e : lookL K (t.drop i) b = goL K (t.drop i) b := by unfold lookL; rw [if_neg hl]
   rw [e]
   have h3 := F116_all_loop K t b (recN F14_f k) ⟨by omega, by omega⟩ ht (by omega) (t.length - i) i out (by omega) ho (fun j o h1 h2 h3 => by
    have := F116_all_eq K hK t ht k (j + 1) (b ++ [gD t j]) o (by omega) (by omega) (by rw [List.length_append, List.length_singleton]; omega) (by rw [List.length_append, List.length_singleton]; omega) h3
    rwa [List.length_append, List.length_singleton] at this)
   rw [if_neg (by simp; omega), T.run_test, if_pos (by simp), T.run_sub, h3, Option.bind_some, T.run_test, if_pos (by simp), T.run_ret]
def F70_sh : FSh := ⟨[(.one (.si .i64)), (.one (.si .i64))], []⟩
def F70_fo : List FO := [⟨[(.one (.rw 0 0)), (.one .sb)], [(.row 0 (.list true (.pair (.int .i64) (.int .i64))))]⟩]
noncomputable def F70_t : (Int × Int) → T ((Unit × Bool) × List (List ((Int × Int)))) := fun (n, diagonals) =>
 (.sub (F39 n) fun z0 =>
 (.test (! z0)
 (.test true
 (.ret (((), false), ([] : List (List (Int × Int)))))
 .fail)
 (.sub (F77 (diagonals, ((0 : Int), (w64 (n - 3))))) fun z1 =>
 (.test (! z1)
 (.test true
 (.ret (((), false), ([] : List (List (Int × Int)))))
 .fail)
 (.sub (F34 n) fun z2 =>
 (.test (decide ((0 + z2.2.length) ≤ z2.2.length))
 (.test true
 (.sub (F14 (((win z2.2 0 z2.2.length), (([] : List (Int × Int)), ((0 : Int), (diagonals, ())))), ((), ([] : List (List (Int × Int)))))) fun z3 =>
 (.test (decide ((0 = 0) ∧ (z3.2.2.length = z3.2.2.length)))
 (.ret (((), true), z3.2.2))
 .fail))
 .fail)
 .fail))))))
noncomputable def F70 (v) := (F70_t v).run
noncomputable def F70_E : TEnv := ((((E0.add1 n_F39 F39_sh F39_fo F39).add1 n_F77 F77_sh F77_fo F77).add1 n_F34 F34_sh F34_fo F34).add1 n_F116 F14_sh F14_fo F14)
theorem F70_Eok : (F70_E).OK := ((((E0ok.add1 F39_ok).add1 F77_ok).add1 F34_ok).add1 F14_ok)
noncomputable def F70_told : Nat → Option SealT := fun id => none
theorem F70_ok : FOK Tryz.prog n_F70 F70_sh F70_fo F70 :=
 fn_ok (E := F70_E) (F70_Eok) (told := F70_told) (fl := []) (c := bodyOf fn_F70) (s := F70_sh) (l := F70_fo) (tree := F70_t) fnat_F70 (by kernel_rfl) (by kernel_rfl) (by kernel_rfl) (loopsOK_of (ls := []) (by kernel_rfl) trivial) (fun v => by kernel_rfl)
def acR (n k : Int) : (Unit × Bool) × List (List Dg) := if (inB 3 8 n && inB 0 (n - 3) k) = true then (((), true), cutsK n.toNat k.toNat) else (((), false), [])
theorem F70_eq (n k : Int) : F70 (n, k) = some (acR n k) := by
 unfold acR
 rw [F70, F70_t, T.run_sub, F39, F39_t, T.run_sub, F77_eq, Option.bind_some, T.run_ret, Option.bind_some, T.run_test]
 cases hn : inB 3 8 n with
 | false => rw [if_pos (by rfl), T.run_test, if_pos (by rfl), T.run_ret, if_neg (by simp)]
 | true =>
  have hn' := inB_iff.1 hn
  obtain ⟨N, rfl⟩ := Int.eq_ofNat_of_zero_le (show 0 ≤ n by omega)
  have w : w64 ((N : Int) - 3) = (N : Int) - 3 := w64_id (by omega) (by omega)
  rw [if_neg (by simp), T.run_sub, F77_eq, w, Option.bind_some, T.run_test]
  cases hk : inB 0 ((N : Int) - 3) k with
  | false => rw [if_pos (by rfl), T.run_test, if_pos (by rfl), T.run_ret, if_neg (by simp)]
  | true =>
   have hk' := inB_iff.1 hk
   obtain ⟨K, rfl⟩ := Int.eq_ofNat_of_zero_le (show 0 ≤ k by omega)
   have hl := dgL_len N (by omega)
   have hp : 2 ^ (dgL N).length ≤ 2 ^ 27 := Nat.pow_le_pow_right (by omega) hl
   have h27 : (2 : Nat) ^ 27 = 134217728 := by decide
   have h := F116_all_eq K (by omega) (dgL N) hl recLim 0 [] [] (by omega) (by unfold recLim; omega) (by simp; omega) (by simp) (by simp only [List.length_nil, Nat.sub_zero]; omega)
   rw [List.drop_zero, List.length_nil, Nat.sub_zero, List.nil_append] at h
   have h' : F14 ((dgL N, (([] : List Dg), ((0 : Int), ((K : Int), ())))), ((), ([] : List (List Dg)))) = _ := h
   rw [if_neg (by simp), T.run_sub, F34_eq N (by omega), Option.bind_some, T.run_test, if_pos (by simp), T.run_test, if_pos (by rfl), T.run_sub]
   dsimp only
   rw [win_all, h', Option.bind_some, T.run_test, if_pos (by simp), T.run_ret, if_pos (by simp), Int.toNat_natCast, Int.toNat_natCast]
   rfl
def F112_sh : FSh := ⟨[(.one (.si .i64)), (.one (.si .i64)), (.one (.si .i64))], []⟩
def F112_fo : List FO := [⟨[(.one .sb)], []⟩]
noncomputable def F112_t : (Int × Int × Int) → T Bool := fun (n, lo, hi) =>
 (.test (decide (n ≥ lo))
 (.ret (decide (n ≤ hi)))
 (.ret false))
noncomputable def F112 (v) := (F112_t v).run
noncomputable def F112_E : TEnv := E0
theorem F112_Eok : (F112_E).OK := E0ok
noncomputable def F112_told : Nat → Option SealT := fun id => none
theorem F112_ok : FOK Tryz.prog n_F112 F112_sh F112_fo F112 :=
 fn_ok (E := F112_E) (F112_Eok) (told := F112_told) (fl := []) (c := bodyOf fn_F112) (s := F112_sh) (l := F112_fo) (tree := F112_t) fnat_F112 (by kernel_rfl) (by kernel_rfl) (by kernel_rfl) (loopsOK_of (ls := []) (by kernel_rfl) trivial) (fun v => by kernel_rfl)
theorem F112_eq (n low high : Int) : F112 (n, low, high) = some (inB low high n) := by
 simp only [F112, F112_t, T.run, ge_iff_le, decide_eq_true_eq, inB]
 by_cases h : low ≤ n <;> simp [h]
def F113_sh : FSh := ⟨[(.one (.si .i64))], []⟩
def F113_fo : List FO := [⟨[(.one .sb)], []⟩]
noncomputable def F113_t : Int → T Bool := fun n =>
 (.sub (F112 (n, ((3 : Int), (12 : Int)))) fun z0 =>
 (.ret z0))
noncomputable def F113 (v) := (F113_t v).run
noncomputable def F113_E : TEnv := (E0.add1 n_F112 F112_sh F112_fo F112)
theorem F113_Eok : (F113_E).OK := (E0ok.add1 F112_ok)
noncomputable def F113_told : Nat → Option SealT := fun id => none
theorem F113_ok : FOK Tryz.prog n_F113 F113_sh F113_fo F113 :=
 fn_ok (E := F113_E) (F113_Eok) (told := F113_told) (fl := []) (c := bodyOf fn_F113) (s := F113_sh) (l := F113_fo) (tree := F113_t) fnat_F113 (by kernel_rfl) (by kernel_rfl) (by kernel_rfl) (loopsOK_of (ls := []) (by kernel_rfl) trivial) (fun v => by kernel_rfl)
end Go.Proofs.W
