/- Functions of the program, walked, and what they compute. -/
import Derived.Test.YtppalpflejcjeaaFeIds
set_option linter.unusedVariables false
set_option linter.unusedSimpArgs false
set_option maxRecDepth 100000
set_option maxHeartbeats 4000000
namespace Go.Proofs.W
open Go Go.Gm Go.Proofs
open Go.RowKit Go.Shelf
def upQ (num den : Int) : Int := (num + den - 1) / den
def iotD (k : Int) (n : Nat) : List (Int × Int) := (List.range n).map fun (i : Nat) => (k + 2 * (i : Int), k + 2 * (i : Int) + 1)
theorem iotD_len (k : Int) (n : Nat) : (iotD k n).length = n := by simp [iotD]
theorem iotD_succ (k : Int) (n : Nat) : iotD k (n + 1) = iotD k n ++ [(k + 2 * (n : Int), k + 2 * (n : Int) + 1)] := by simp [iotD, List.range_succ]
theorem iotD_get (k : Int) {n i : Nat} (h : i < n) : (iotD k n)[i]? = some (k + 2 * (i : Int), k + 2 * (i : Int) + 1) := by simp [iotD, h]
theorem zip_any_neD : ∀ (a b : List (Int × Int)), a.length = b.length → ((a.zip b).any fun p => !(decide (p.1 = p.2))) = !decide (a = b)
  | [], [], _ => rfl
  | x :: a, y :: b, h => by
    have ih := zip_any_neD a b (by simpa using h)
    rw [List.zip_cons_cons, List.any_cons, ih]
    by_cases hx : x = y <;> simp [hx]

def F54_sh : FSh := ⟨[(.one (.si .i64)), (.one (.si .i64)), (.one (.si .i64))], []⟩

def F54_fo : List FO := [⟨[(.one .sb)], []⟩]
noncomputable def F54_t : (Int × Int × Int) → T Bool := fun (n, lo, hi) =>
 (.test (decide (n ≥ lo))
 (.ret (decide (n ≤ hi)))
 (.ret false))
noncomputable def F54 (v : (Int × Int × Int)) : Option Bool := (F54_t v).run
noncomputable def F54_E : TEnv := E0
theorem F54_Eok : (F54_E).OK := E0ok
noncomputable def F54_told : Nat → Option SealT := fun id => none
theorem F54_ok : FOK Try.prog n_F54 F54_sh F54_fo F54 :=
  fn_ok (E := F54_E) (F54_Eok) (told := F54_told) (fl := []) (c := bodyOf fn_F54) (s := F54_sh) (l := F54_fo) (tree := F54_t) fnat_F54 (by kernel_rfl) (by kernel_rfl) (by kernel_rfl) (loopsOK_of (ls := []) (by kernel_rfl) trivial) (fun v => by kernel_rfl)

theorem F54_eq (n low high : Int) : F54 (n, low, high) = some (inB low high n) := by
  simp only [F54, F54_t, T.run, ge_iff_le, decide_eq_true_eq, inB]
  by_cases h : low ≤ n <;> simp [h]


def F55_sh : FSh := ⟨[(.one (.si .i64))], []⟩

def F55_fo : List FO := [⟨[(.one .sb)], []⟩]
noncomputable def F55_t : Int → T Bool := fun n =>
 (.sub (F54 (n, ((3 : Int), (12 : Int)))) fun z0 =>
 (.ret z0))
noncomputable def F55 (v : Int) : Option Bool := (F55_t v).run
noncomputable def F55_E : TEnv := (E0.add1 n_F54 F54_sh F54_fo F54)
theorem F55_Eok : (F55_E).OK := (E0ok.add1 F54_ok)
noncomputable def F55_told : Nat → Option SealT := fun id => none
theorem F55_ok : FOK Try.prog n_F55 F55_sh F55_fo F55 :=
  fn_ok (E := F55_E) (F55_Eok) (told := F55_told) (fl := []) (c := bodyOf fn_F55) (s := F55_sh) (l := F55_fo) (tree := F55_t) fnat_F55 (by kernel_rfl) (by kernel_rfl) (by kernel_rfl) (loopsOK_of (ls := []) (by kernel_rfl) trivial) (fun v => by kernel_rfl)


abbrev Dg := Int × Int
def crossD (d e : Dg) : Bool := (decide (d.1 < e.1) && decide (e.1 < d.2) && decide (d.2 < e.2)) || (decide (e.1 < d.1) && decide (d.1 < e.2) && decide (e.2 < d.2))
def Ends (names : List Int) (d : Dg) : Prop := d.1 ∈ names ∧ d.2 ∈ names ∧ d.1 < d.2 ∧ (∃ m ∈ names, d.1 < m ∧ m < d.2) ∧ (∃ m ∈ names, m < d.1 ∨ d.2 < m)
theorem Ends.mono {names names' : List Int} (h : ∀ m ∈ names', m ∈ names) {d : Dg} (hd : Ends names' d) : Ends names d := by
  obtain ⟨a, b, c, ⟨m, hm, hm'⟩, ⟨q, hq, hq'⟩⟩ := hd
  exact ⟨h _ a, h _ b, c, ⟨m, h _ hm, hm'⟩, ⟨q, h _ hq, hq'⟩⟩
def ltD (d e : Dg) : Bool := decide (d.1 < e.1 ∨ d.1 = e.1 ∧ d.2 < e.2)
def leD (d e : Dg) : Bool := !ltD e d
theorem leD_iff {d e : Dg} : leD d e = true ↔ d.1 < e.1 ∨ d.1 = e.1 ∧ d.2 ≤ e.2 := by
  unfold leD ltD; simp; omega
theorem ltD_iff {d e : Dg} : ltD d e = true ↔ d.1 < e.1 ∨ d.1 = e.1 ∧ d.2 < e.2 := by
  unfold ltD; simp
theorem leD_trans {a b c : Dg} (h1 : leD a b = true) (h2 : leD b c = true) : leD a c = true := by
  rw [leD_iff] at *; omega
theorem leD_anti {a b : Dg} (h1 : leD a b = true) (h2 : leD b a = true) : a = b := by
  rw [leD_iff] at *
  exact Prod.ext (by omega) (by omega)
theorem leD_of_lt {a b : Dg} (h : ltD a b = true) : leD a b = true := by
  rw [leD_iff]; rw [ltD_iff] at h; omega
theorem leD_of_not {a b : Dg} (h : ltD a b = false) : leD b a = true := by unfold leD; rw [h]; rfl
def SortedD (l : List Dg) : Prop := l.Pairwise fun a b => leD a b = true
theorem sorted_unique {l m : List Dg} (h1 : SortedD l) (h2 : SortedD m) (hp : l.Perm m) : l = m :=
  List.Perm.eq_of_pairwise (fun a b _ _ h1 h2 => leD_anti h1 h2) h1 h2 hp
def insD (d : Dg) (l : List Dg) : List Dg := l.takeWhile (ltD · d) ++ d :: l.dropWhile (ltD · d)
theorem insD_perm (d : Dg) (l : List Dg) : (insD d l).Perm (d :: l) := by
  unfold insD
  have h := List.perm_middle (a := d) (l₁ := l.takeWhile (ltD · d)) (l₂ := l.dropWhile (ltD · d))
  rwa [List.takeWhile_append_dropWhile] at h
theorem insD_sorted (d : Dg) : ∀ {l : List Dg}, SortedD l → SortedD (insD d l)
  | [], _ => by simp [insD, SortedD]
  | x :: t, h => by
    obtain ⟨h1, h2⟩ := List.pairwise_cons.1 h
    unfold insD
    cases hx : ltD x d with
    | true =>
      rw [List.takeWhile_cons, List.dropWhile_cons]
      simp only [hx, if_true, List.cons_append]
      refine List.pairwise_cons.2 ⟨fun y hy => ?_, insD_sorted d h2⟩
      have : y ∈ d :: t := (insD_perm d t).mem_iff.1 hy
      rcases List.mem_cons.1 this with rfl | hy
      · exact leD_of_lt hx
      · exact h1 y hy
    | false =>
      rw [List.takeWhile_cons, List.dropWhile_cons]
      simp only [hx, Bool.false_eq_true, if_false, List.nil_append]
      refine List.pairwise_cons.2 ⟨fun y hy => ?_, h⟩
      rcases List.mem_cons.1 hy with rfl | hy
      · exact leD_of_not hx
      · exact leD_trans (leD_of_not hx) (h1 y hy)
def sortD (l : List Dg) : List Dg := l.foldl (fun out d => insD d out) []
theorem sortD_go : ∀ (l out : List Dg), SortedD out → SortedD (l.foldl (fun out d => insD d out) out) ∧ (l.foldl (fun out d => insD d out) out).Perm (out ++ l)
  | [], out, h => ⟨h, by simp⟩
  | d :: l, out, h => by
    obtain ⟨h1, h2⟩ := sortD_go l (insD d out) (insD_sorted d h)
    refine ⟨h1, h2.trans ?_⟩
    exact ((insD_perm d out).append_right l).trans (by simpa using (List.perm_middle (a := d) (l₁ := out) (l₂ := l)).symm)
theorem sortD_sorted (l : List Dg) : SortedD (sortD l) := (sortD_go l [] (by simp [SortedD])).1
theorem sortD_perm (l : List Dg) : (sortD l).Perm l := by have h := (sortD_go l [] (by simp [SortedD])).2; rwa [List.nil_append] at h
def gD (l : List Dg) (p : Nat) : Dg := l.getD p (0, 0)
def swapD (l : List Dg) (j : Nat) : List Dg := (l.set (j + 1) (gD l j)).set j (gD l (j + 1))
def sinkD : Nat → List Dg → List Dg
  | 0, l => l
  | j + 1, l => if ltD (gD l (j + 1)) (gD l j) then sinkD j (swapD l j) else l
theorem gD_eq {l : List Dg} {p : Nat} (h : p < l.length) : gD l p = l[p] := by unfold gD; rw [List.getD_eq_getElem?_getD, List.getElem?_eq_getElem h]; rfl
theorem gD_some {l : List Dg} {p : Nat} (h : p < l.length) : l[p]? = some (gD l p) := by rw [gD_eq h, List.getElem?_eq_getElem h]
theorem swapD_length (l : List Dg) (j : Nat) : (swapD l j).length = l.length := by simp [swapD]
theorem sinkD_length : ∀ (j : Nat) (l : List Dg), (sinkD j l).length = l.length
  | 0, l => rfl
  | j + 1, l => by
    unfold sinkD
    split
    · rw [sinkD_length, swapD_length]
    · rfl
theorem swapD_perm {l : List Dg} {j : Nat} (h : j + 1 < l.length) : (swapD l j).Perm l := by
  unfold swapD
  rw [gD_eq h, gD_eq (by omega)]
  exact List.set_set_perm (by omega) (by omega)
theorem sinkD_perm : ∀ {j : Nat} {l : List Dg}, j < l.length → (sinkD j l).Perm l
  | 0, l, _ => .refl _
  | j + 1, l, h => by
    unfold sinkD
    split
    · exact (sinkD_perm (by rw [swapD_length]; omega)).trans (swapD_perm h)
    · exact .refl _
theorem swapD_get {l : List Dg} {j p : Nat} (h : j + 1 < l.length) : gD (swapD l j) p = if p = j then gD l (j + 1) else if p = j + 1 then gD l j else gD l p := by
  unfold swapD
  conv => lhs; unfold gD
  simp only [List.getD_eq_getElem?_getD]
  by_cases e1 : p = j
  · subst e1
    rw [List.getElem?_set_self (by simp; omega), if_pos rfl]; rfl
  · rw [List.getElem?_set_ne (fun e => e1 e.symm), if_neg e1]
    by_cases e2 : p = j + 1
    · subst e2
      rw [List.getElem?_set_self h, if_pos rfl]; rfl
    · rw [List.getElem?_set_ne (fun e => e2 e.symm), if_neg e2]
      unfold gD; rw [List.getD_eq_getElem?_getD]
def SUp (l : List Dg) (i : Nat) : Prop := ∀ p q, p < q → q ≤ i → leD (gD l p) (gD l q) = true
theorem sinkD_up : ∀ (j : Nat) (l : List Dg) (i : Nat), j < l.length → j ≤ i → (∀ p q, p < q → q ≤ i → p ≠ j → q ≠ j → leD (gD l p) (gD l q) = true) → (∀ q, j < q → q ≤ i → leD (gD l j) (gD l q) = true) → SUp (sinkD j l) i
  | 0, l, i, hl, hi, h1, h2 => by
    intro p q hpq hq
    by_cases e : p = 0
    · subst e; exact h2 q hpq hq
    · exact h1 p q hpq hq e (by omega)
  | j + 1, l, i, hl, hi, h1, h2 => by
    unfold sinkD
    cases hlt : ltD (gD l (j + 1)) (gD l j) with
    | true =>
      simp only [if_true]
      refine sinkD_up j (swapD l j) i (by rw [swapD_length]; omega) (by omega) (fun p q hpq hq hp hq' => ?_) (fun q hq hqi => ?_)
      · rw [swapD_get hl, swapD_get hl, if_neg hp, if_neg hq']
        by_cases e1 : p = j + 1
        · rw [if_pos e1, if_neg (by omega)]
          exact h1 j q (by omega) hq (by omega) (by omega)
        · rw [if_neg e1]
          by_cases e2 : q = j + 1
          · rw [if_pos e2]
            exact h1 p j (by omega) (by omega) e1 (by omega)
          · rw [if_neg e2]
            exact h1 p q hpq hq e1 e2
      · rw [swapD_get hl, swapD_get hl, if_pos rfl, if_neg (by omega)]
        by_cases e2 : q = j + 1
        · rw [if_pos e2]; exact leD_of_lt hlt
        · rw [if_neg e2]; exact h2 q (by omega) hqi
    | false =>
      simp only [Bool.false_eq_true, if_false]
      intro p q hpq hq
      by_cases e1 : p = j + 1
      · subst e1; exact h2 q hpq hq
      · by_cases e2 : q = j + 1
        · subst e2
          have := leD_of_not hlt
          by_cases e3 : p = j
          · subst e3; exact this
          · exact leD_trans (h1 p j (by omega) (by omega) e1 (by omega)) this
        · exact h1 p q hpq hq e1 e2
def isortD : Nat → Nat → List Dg → List Dg
  | 0, _, l => l
  | n + 1, i, l => isortD n (i + 1) (sinkD i l)
theorem isortD_spec : ∀ (n i : Nat) (l : List Dg), 0 < i → i + n = l.length → SUp l (i - 1) → SUp (isortD n i l) (l.length - 1) ∧ (isortD n i l).Perm l
  | 0, i, l, hi, hl, h => by
    refine ⟨?_, .refl _⟩
    rw [← hl]
    exact h
  | n + 1, i, l, hi, hl, h => by
    have hs := sinkD_up i l i (by omega) (Nat.le_refl _) (fun p q hpq hq hp hq' => h p q hpq (by omega)) (fun q h1 h2 => by omega)
    obtain ⟨h1, h2⟩ := isortD_spec n (i + 1) (sinkD i l) (by omega) (by rw [sinkD_length]; omega) (by simpa using hs)
    rw [sinkD_length] at h1
    exact ⟨h1, h2.trans (sinkD_perm (by omega))⟩
theorem isortD_eq (l : List Dg) : isortD (l.length - 1) 1 l = sortD l := by
  by_cases h0 : l.length = 0
  · have : l = [] := List.eq_nil_of_length_eq_zero h0
    subst this; rfl
  obtain ⟨h1, h2⟩ := isortD_spec (l.length - 1) 1 l (by omega) (by omega) (fun p q h1 h2 => by omega)
  refine sorted_unique ?_ (sortD_sorted l) (h2.trans (sortD_perm l).symm)
  unfold SortedD
  rw [List.pairwise_iff_getElem]
  intro p q hp hq hpq
  have hlen := h2.length_eq
  have := h1 p q hpq (by omega)
  rwa [gD_eq hp, gD_eq hq] at this
def inDg (n : Int) (d : Dg) : Bool := inB 0 (n - 1) d.1 && inB 0 (n - 1) d.2 && decide (d.2 - d.1 > 1) && !(d.1 == 0 && d.2 == n - 1)
def badT (n : Int) (ds : List Dg) (k : Nat) : Bool := !inDg n (gD ds k) || (decide (0 < k) && !ltD (gD ds (k - 1)) (gD ds k)) || (ds.take k).any (crossD (gD ds k))
theorem crossD_comm (d e : Dg) : crossD d e = crossD e d := by
  unfold crossD
  exact Bool.or_comm _ _
def nameL (n : Nat) : List Int := (List.range n).map fun (k : Nat) => (k : Int)
theorem nameL_length (n : Nat) : (nameL n).length = n := by simp [nameL]
theorem nameL_succ (n : Nat) : nameL (n + 1) = nameL n ++ [(n : Int)] := by simp [nameL, List.range_succ]
theorem nameL_get {n p : Nat} (h : p < n) : (nameL n)[p]? = some (p : Int) := by simp [nameL, h]
theorem nameL_sorted (n : Nat) : (nameL n).Pairwise (· < ·) := by
  rw [List.pairwise_iff_getElem]
  intro i j hi hj hij
  simp [nameL]
  omega
theorem nameL_mem {n : Nat} {m : Int} (h : m ∈ nameL n) : 0 ≤ m ∧ m < n := by
  obtain ⟨p, hp, e⟩ := List.mem_map.1 h
  have := List.mem_range.1 hp
  subst e
  omega
def ltL : List Int → List Int → Bool
  | [], [] => false
  | [], _ :: _ => true
  | _ :: _, [] => false
  | x :: a, y :: b => if x < y then true else if y < x then false else ltL a b
def leL (a b : List Int) : Bool := !ltL b a
theorem ltL_irr : ∀ a : List Int, ltL a a = false
  | [] => rfl
  | x :: a => by simp [ltL, ltL_irr a]
theorem ltL_trans : ∀ {a b c : List Int}, ltL a b = true → ltL b c = true → ltL a c = true
  | [], [], c, h, _ => by simp [ltL] at h
  | [], y :: b, [], _, h => by simp [ltL] at h
  | [], y :: b, z :: c, _, _ => rfl
  | x :: a, [], c, h, _ => by simp [ltL] at h
  | x :: a, y :: b, [], _, h => by simp [ltL] at h
  | x :: a, y :: b, z :: c, h1, h2 => by
    unfold ltL at h1 h2 ⊢
    by_cases g1 : x < y
    · by_cases g2 : y < z
      · rw [if_pos (by omega)]
      · rw [if_neg g2] at h2
        by_cases g3 : z < y
        · rw [if_pos g3] at h2; cases h2
        · rw [if_pos (by omega)]
    · rw [if_neg g1] at h1
      by_cases g4 : y < x
      · rw [if_pos g4] at h1; cases h1
      · rw [if_neg g4] at h1
        have e : x = y := by omega
        subst e
        by_cases g2 : x < z
        · rw [if_pos g2]
        · rw [if_neg g2] at h2 ⊢
          by_cases g3 : z < x
          · rw [if_pos g3] at h2; cases h2
          · rw [if_neg g3] at h2 ⊢
            exact ltL_trans h1 h2
theorem ltL_tot : ∀ {a b : List Int}, ltL a b = false → ltL b a = false → a = b
  | [], [], _, _ => rfl
  | [], y :: b, h, _ => by simp [ltL] at h
  | x :: a, [], _, h => by simp [ltL] at h
  | x :: a, y :: b, h1, h2 => by
    unfold ltL at h1 h2
    by_cases g1 : x < y
    · rw [if_pos g1] at h1; cases h1
    · rw [if_neg g1] at h1
      by_cases g2 : y < x
      · rw [if_pos g2] at h2; cases h2
      · rw [if_neg g2] at h1 h2
        rw [if_neg g1] at h2
        rw [show x = y by omega, ltL_tot h1 h2]
theorem leL_tot (a b : List Int) : (leL a b || leL b a) = true := by
  unfold leL
  cases h1 : ltL b a with
  | false => rfl
  | true =>
    cases h2 : ltL a b with
    | false => rfl
    | true =>
      have := ltL_trans h1 h2
      rw [ltL_irr] at this
      cases this
theorem leL_trans {a b c : List Int} (h1 : leL a b = true) (h2 : leL b c = true) : leL a c = true := by
  unfold leL at h1 h2 ⊢
  simp only [Bool.not_eq_true'] at h1 h2 ⊢
  cases h : ltL c a with
  | false => rfl
  | true =>
    exfalso
    cases h3 : ltL a b with
    | true => have := ltL_trans h h3; rw [this] at h2; cases h2
    | false =>
      have := ltL_tot h3 h1
      subst this
      rw [h] at h2; cases h2
def sortL (l : List (List Int)) : List (List Int) := l.mergeSort leL
theorem sortL_perm (l : List (List Int)) : (sortL l).Perm l := List.mergeSort_perm l leL
theorem sortL_up (l : List (List Int)) : (sortL l).Pairwise fun a b => leL a b = true := List.pairwise_mergeSort (le := leL) (fun _ _ _ => leL_trans) leL_tot l
theorem sortL_unique {l m : List (List Int)} (h : m.Pairwise fun a b => leL a b = true) (hp : m.Perm l) : m = sortL l :=
  List.Perm.eq_of_pairwise (fun a b _ _ h1 h2 => ltL_tot (by simpa [leL] using h2) (by simpa [leL] using h1)) h (sortL_up l) (hp.trans (sortL_perm l).symm)
def freeD (d : Dg) (b : List Dg) : Bool := !b.any (crossD d)
def goL (m : Nat) : List Dg → List Dg → List (List Dg)
  | [], _ => []
  | d :: rest, b => (if freeD d b then (if b.length + 1 = m then [b ++ [d]] else goL m rest (b ++ [d])) else []) ++ goL m rest b
def lookL (m : Nat) (rest b : List Dg) : List (List Dg) := if b.length = m then [b] else goL m rest b
theorem goL_cons (m : Nat) (d : Dg) (rest b : List Dg) : goL m (d :: rest) b = (if freeD d b then lookL m rest (b ++ [d]) else []) ++ goL m rest b := by
  conv => lhs; unfold goL
  unfold lookL
  simp only [List.length_append, List.length_cons, List.length_nil, Nat.zero_add]
def dgL (n : Nat) : List Dg := (List.range n).flatMap fun (a : Nat) => (((List.range n).map fun (b : Nat) => ((a : Int), (b : Int))).filter fun d => inDg n d)
theorem goL_len (m : Nat) : ∀ (rest b : List Dg), (goL m rest b).length ≤ 2 ^ rest.length
  | [], b => by simp [goL]
  | d :: rest, b => by
    have h1 := goL_len m rest b
    have h2 := goL_len m rest (b ++ [d])
    have h3 : 1 ≤ 2 ^ rest.length := Nat.one_le_two_pow
    rw [goL_cons, List.length_append, List.length_cons, Nat.pow_succ]
    unfold lookL
    by_cases hf : freeD d b = true
    · rw [if_pos hf]
      by_cases hb : (b ++ [d]).length = m
      · rw [if_pos hb]; simp only [List.length_cons, List.length_nil]; omega
      · rw [if_neg hb]; omega
    · rw [if_neg hf]; simp only [List.length_nil]; omega
theorem dgL_len (n : Nat) (h : n ≤ 9) : (dgL n).length ≤ 27 := by
  have : ∀ k, k ≤ 9 → (dgL k).length ≤ 27 := by decide +kernel
  exact this n h
def rowD (n a b : Nat) : List Dg := (((List.range n).drop b).map fun (b : Nat) => ((a : Int), (b : Int))).filter fun d => inDg n d
theorem rowD_end (n a : Nat) : rowD n a n = [] := by
  unfold rowD
  rw [List.drop_of_length_le (by simp)]
  rfl
theorem rowD_step {n a b : Nat} (h : b < n) : rowD n a b = (if inDg n ((a : Int), (b : Int)) then [((a : Int), (b : Int))] else []) ++ rowD n a (b + 1) := by
  unfold rowD
  rw [List.drop_eq_getElem_cons (by simpa using h), List.map_cons, List.filter_cons, List.getElem_range]
  split <;> rfl
theorem inDg_iff {n : Int} {d : Dg} : inDg n d = true ↔ (0 ≤ d.1 ∧ d.1 ≤ n - 1) ∧ (0 ≤ d.2 ∧ d.2 ≤ n - 1) ∧ d.2 - d.1 > 1 ∧ ¬ (d.1 = 0 ∧ d.2 = n - 1) := by
  unfold inDg
  simp [inB_iff, and_assoc]
  intros
  omega
theorem rowD_front (n a : Nat) : ∀ k, k ≤ a + 2 → rowD n a 0 = rowD n a k
  | 0, _ => rfl
  | k + 1, h => by
    rw [rowD_front n a k (by omega)]
    by_cases hk : k < n
    · rw [rowD_step hk, if_neg, List.nil_append]
      rw [inDg_iff]
      simp only []
      omega
    · unfold rowD
      rw [List.drop_of_length_le (by simp; omega), List.drop_of_length_le (by simp; omega)]
theorem dgL_rows (n : Nat) : dgL n = (List.range n).flatMap fun a => rowD n a 0 := rfl
theorem rowD_len (n a b : Nat) : (rowD n a b).length ≤ n := by
  unfold rowD
  exact Nat.le_trans (List.length_filter_le ..) (by simp)
def rowsD (n a : Nat) : List Dg := ((List.range n).drop a).flatMap fun a => rowD n a 0
theorem rowsD_end (n : Nat) : rowsD n n = [] := by unfold rowsD; rw [List.drop_of_length_le (by simp)]; rfl
theorem rowsD_step {n a : Nat} (h : a < n) : rowsD n a = rowD n a 0 ++ rowsD n (a + 1) := by
  unfold rowsD
  rw [List.drop_eq_getElem_cons (by simpa using h), List.flatMap_cons, List.getElem_range]
theorem drop_gD {t : List Dg} {i : Nat} (h : i < t.length) : t.drop i = gD t i :: t.drop (i + 1) := by rw [gD_eq h, List.drop_eq_getElem_cons h]
theorem look_pow {m : Nat} {t b : List Dg} {i k : Nat} (hm : m = t.length - (i + 1)) : (lookL k (t.drop (i + 1)) b).length ≤ 2 ^ m := by
  unfold lookL
  split
  · simp only [List.length_cons, List.length_nil]; exact Nat.one_le_two_pow
  · have := goL_len k (t.drop (i + 1)) b
    rwa [List.length_drop, ← hm] at this
def F28_sh : FSh := ⟨[(.one (.si .i64)), (.ag [(.si .i64), (.si .i64)])], []⟩

def F28_fo : List FO := [⟨[(.one .sb)], []⟩]
noncomputable def F28_t : (Int × (Int × Int)) → T Bool := fun (n, (d_0, d_1)) =>
 (.sub (F55 n) fun z0 =>
 (.test z0
 (.sub (F54 (d_0, ((0 : Int), (w64 (n - 1))))) fun z1 =>
 (.test z1
 (.sub (F54 (d_1, ((0 : Int), (w64 (n - 1))))) fun z2 =>
 (.test z2
 (.test (decide ((w64 (d_1 - d_0)) ≥ 2))
 (.ret (decide ((w64 (d_1 - d_0)) ≤ (w64 (n - 2)))))
 (.ret false))
 (.ret false)))
 (.ret false)))
 (.ret false)))
noncomputable def F28 (v : (Int × (Int × Int))) : Option Bool := (F28_t v).run
noncomputable def F28_E : TEnv := ((E0.add1 n_F55 F55_sh F55_fo F55).add1 n_F54 F54_sh F54_fo F54)
theorem F28_Eok : (F28_E).OK := ((E0ok.add1 F55_ok).add1 F54_ok)
noncomputable def F28_told : Nat → Option SealT := fun id => none
theorem F28_ok : FOK Try.prog n_F28 F28_sh F28_fo F28 :=
  fn_ok (E := F28_E) (F28_Eok) (told := F28_told) (fl := []) (c := bodyOf fn_F28) (s := F28_sh) (l := F28_fo) (tree := F28_t) fnat_F28 (by kernel_rfl) (by kernel_rfl) (by kernel_rfl) (loopsOK_of (ls := []) (by kernel_rfl) trivial) (fun v => by kernel_rfl)

theorem F28_eq (n : Int) (d : Dg) (h1 : 3 ≤ n) (h2 : n ≤ 12) : F28 (n, d) = some (inDg n d) := by
  obtain ⟨a, b⟩ := d
  have hp : inB 3 12 n = true := inB_iff.2 ⟨h1, h2⟩
  simp only [F28, F28_t, T.run, F55, F55_t, F54_eq, Option.bind_some, hp, if_true, w64_id (z := n - 1) (by omega) (by omega), w64_id (z := n - 2) (by omega) (by omega)]
  cases ha : inB 0 (n - 1) a with
  | false => simp [inDg, ha]
  | true =>
    cases hb : inB 0 (n - 1) b with
    | false => simp [inDg, hb]
    | true =>
      have e : inDg n (a, b) = decide (b - a ≥ 2 ∧ b - a ≤ n - 2) := by
        rw [Bool.eq_iff_iff, inDg_iff, decide_eq_true_eq]
        rw [inB_iff] at ha hb
        simp only []
        omega
      rw [inB_iff] at ha hb
      rw [w64_id (z := b - a) (by omega) (by omega), e]
      by_cases g1 : b - a ≥ 2 <;> by_cases g2 : b - a ≤ n - 2 <;> simp [g1, g2]


def F37_sh : FSh := ⟨[(.ag [(.si .i64), (.si .i64)]), (.ag [(.si .i64), (.si .i64)])], []⟩

def F37_fo : List FO := [⟨[(.one .sb)], []⟩]
noncomputable def F37_t : ((Int × Int) × (Int × Int)) → T Bool := fun ((d_0, d_1), (e_0, e_1)) =>
 (.test (decide (d_0 < e_0))
 (.test (decide (e_0 < d_1))
 (.test (decide (d_1 < e_1))
 (.ret true)
 (.test (decide (e_0 < d_0))
 (.test (decide (d_0 < e_1))
 (.ret (decide (e_1 < d_1)))
 (.ret false))
 (.ret false)))
 (.test (decide (e_0 < d_0))
 (.test (decide (d_0 < e_1))
 (.ret (decide (e_1 < d_1)))
 (.ret false))
 (.ret false)))
 (.test (decide (e_0 < d_0))
 (.test (decide (d_0 < e_1))
 (.ret (decide (e_1 < d_1)))
 (.ret false))
 (.ret false)))
noncomputable def F37 (v : ((Int × Int) × (Int × Int))) : Option Bool := (F37_t v).run
noncomputable def F37_E : TEnv := E0
theorem F37_Eok : (F37_E).OK := E0ok
noncomputable def F37_told : Nat → Option SealT := fun id => none
theorem F37_ok : FOK Try.prog n_F37 F37_sh F37_fo F37 :=
  fn_ok (E := F37_E) (F37_Eok) (told := F37_told) (fl := []) (c := bodyOf fn_F37) (s := F37_sh) (l := F37_fo) (tree := F37_t) fnat_F37 (by kernel_rfl) (by kernel_rfl) (by kernel_rfl) (loopsOK_of (ls := []) (by kernel_rfl) trivial) (fun v => by kernel_rfl)

theorem F37_eq (d e : Dg) : F37 (d, e) = some (crossD d e) := by
  obtain ⟨a, b⟩ := d
  obtain ⟨c, f⟩ := e
  simp only [F37, F37_t, T.run, crossD]
  by_cases h1 : a < c <;> by_cases h2 : c < b <;> by_cases h3 : b < f <;> by_cases h4 : c < a <;> by_cases h5 : a < f <;> by_cases h6 : f < b <;> simp [h1, h2, h3, h4, h5, h6]


def F32_sh : FSh := ⟨[(.one (.si .i64)), (.one (.sl (.pair (.int .i64) (.int .i64)) false false)), (.one (.sl (.pair (.int .i64) (.int .i64)) false false)), (.one (.pf 0 0 0))], [(.rcd 0 [(.rw 1 0)]), (.row 0 (.list true (.pair (.int .i64) (.int .i64))))]⟩

def F32_fo : List FO := [⟨[], [(.rcd 0 [(.rw 1 1)]), (.row 1 (.list true (.pair (.int .i64) (.int .i64))))]⟩]

def F32_L7_sh : LSh := ⟨(fun ex => match ex with | .norm => [(0, none), (1, none), (2, none), (3, none), (8, none), (9, none), (10, none), (25, none), (26, none), (27, none), (32, none), (33, none), (34, none)] | .exit i => if i = 2 then [(0, none), (1, none), (2, none), (3, none), (8, none), (9, none), (10, none), (25, none), (26, none), (27, none)] else if i = 1 then [(0, none), (1, none), (2, none), (3, none), (25, none), (26, none), (27, none)] else if i = 0 then [] else [] | .ret => []), [(0, (.one (.si .i64))), (1, (.one (.sl (.pair (.int .i64) (.int .i64)) false false))), (2, (.one (.sl (.pair (.int .i64) (.int .i64)) false false))), (3, (.one (.pf 0 0 0))), (8, (.one (.si .i64))), (9, (.one (.pf 2 0 0))), (10, (.one .sb)), (25, (.one (.sl (.pair (.int .i64) (.int .i64)) false false))), (26, (.one (.si .i64))), (27, (.one (.si .i64))), (32, (.one (.sl (.pair (.int .i64) (.int .i64)) false false))), (33, (.one (.si .i64))), (34, (.one (.si .i64)))], [(.rcd 0 [(.rw 1 1)]), (.row 1 (.list true (.pair (.int .i64) (.int .i64)))), (.rcd 0 [(.si .i64), (.si .i64)])], [⟨(.exit 2), [(0, (.one (.si .i64))), (1, (.one (.sl (.pair (.int .i64) (.int .i64)) false false))), (2, (.one (.sl (.pair (.int .i64) (.int .i64)) false false))), (3, (.one (.pf 0 0 0))), (8, (.one (.si .i64))), (9, (.one (.pf 2 0 0))), (10, (.one .sb)), (25, (.one (.sl (.pair (.int .i64) (.int .i64)) false false))), (26, (.one (.si .i64))), (27, (.one (.si .i64)))], [(.rcd 0 [(.rw 1 1)]), (.row 1 (.list true (.pair (.int .i64) (.int .i64)))), (.rcd 0 [(.si .i64), (.si .i64)])]⟩], [], []⟩
noncomputable def F32_L7_step (recv : ((Int × List ((Int × Int)) × List ((Int × Int)) × Unit) × (Unit × List (List ((Int × Int))))) → Option (Unit × (Unit × List (List ((Int × Int)))))) : ((Int × List ((Int × Int)) × List ((Int × Int)) × Unit × Int × Unit × Bool × List ((Int × Int)) × Int × Int × List ((Int × Int)) × Int × Int) × (Unit × List (List ((Int × Int))) × (Int × Int))) → T (((Int × List ((Int × Int)) × List ((Int × Int)) × Unit × Int × Unit × Bool × List ((Int × Int)) × Int × Int × List ((Int × Int)) × Int × Int) × (Unit × List (List ((Int × Int))) × (Int × Int))) ⊕ ((Int × List ((Int × Int)) × List ((Int × Int)) × Unit × Int × Unit × Bool × List ((Int × Int)) × Int × Int) × (Unit × List (List ((Int × Int))) × (Int × Int)))) := fun ((left, all, begin, (), i, (), free, t25, t26, t27, t32, t33, t34), ((), out_r, (d_0, d_1))) =>
 (.test (decide (t34 < t33))
 (.test (decide ((0 ≤ t34) ∧ (t34 < ((List.length t32) : Int))))
 (.sub (t32[(Int.toNat t34)]?) fun z0 =>
 (.test free
 (.sub (F37 ((d_0, d_1), (z0.1, z0.2))) fun z1 =>
 (.test (decide ((0 = 0) ∧ ((List.length out_r) = (List.length out_r))))
 (.ret (Sum.inl ((left, (all, (begin, ((), (i, ((), ((! z1), (t25, (t26, (t27, (t32, (t33, (w64 (t34 + 1)))))))))))))), ((), (out_r, (d_0, d_1))))))
 .fail))
 (.test (decide ((0 = 0) ∧ ((List.length out_r) = (List.length out_r))))
 (.ret (Sum.inl ((left, (all, (begin, ((), (i, ((), (false, (t25, (t26, (t27, (t32, (t33, (w64 (t34 + 1)))))))))))))), ((), (out_r, (d_0, d_1))))))
 .fail)))
 .fail)
 (.test (decide ((0 = 0) ∧ ((List.length out_r) = (List.length out_r))))
 (.ret (Sum.inr ((left, (all, (begin, ((), (i, ((), (free, (t25, (t26, t27))))))))), ((), (out_r, (d_0, d_1))))))
 .fail))
noncomputable def F32_L7 (recv : ((Int × List ((Int × Int)) × List ((Int × Int)) × Unit) × (Unit × List (List ((Int × Int))))) → Option (Unit × (Unit × List (List ((Int × Int)))))) (v : ((Int × List ((Int × Int)) × List ((Int × Int)) × Unit × Int × Unit × Bool × List ((Int × Int)) × Int × Int × List ((Int × Int)) × Int × Int) × (Unit × List (List ((Int × Int))) × (Int × Int)))) : Option ((Int × List ((Int × Int)) × List ((Int × Int)) × Unit × Int × Unit × Bool × List ((Int × Int)) × Int × Int) × (Unit × List (List ((Int × Int))) × (Int × Int))) := loopO (fun v => (F32_L7_step recv v).run) v

def F32_L3_sh : LSh := ⟨(fun ex => match ex with | .norm => [(0, none), (1, none), (2, none), (3, none), (25, none), (26, none), (27, none)] | .exit i => if i = 0 then [] else [] | .ret => []), [(0, (.one (.si .i64))), (1, (.one (.sl (.pair (.int .i64) (.int .i64)) false false))), (2, (.one (.sl (.pair (.int .i64) (.int .i64)) false false))), (3, (.one (.pf 0 0 0))), (25, (.one (.sl (.pair (.int .i64) (.int .i64)) false false))), (26, (.one (.si .i64))), (27, (.one (.si .i64)))], [(.rcd 0 [(.rw 1 1)]), (.row 1 (.list true (.pair (.int .i64) (.int .i64))))], [⟨(.exit 0), [], [(.rcd 0 [(.rw 1 1)]), (.row 1 (.list true (.pair (.int .i64) (.int .i64))))]⟩], [], [1]⟩
noncomputable def F32_L3_step (recv : ((Int × List ((Int × Int)) × List ((Int × Int)) × Unit) × (Unit × List (List ((Int × Int))))) → Option (Unit × (Unit × List (List ((Int × Int)))))) : ((Int × List ((Int × Int)) × List ((Int × Int)) × Unit × List ((Int × Int)) × Int × Int) × (Unit × List (List ((Int × Int))))) → T (((Int × List ((Int × Int)) × List ((Int × Int)) × Unit × List ((Int × Int)) × Int × Int) × (Unit × List (List ((Int × Int))))) ⊕ (Unit × (Unit × List (List ((Int × Int)))))) := fun ((left, all, begin, (), t25, t26, t27), ((), out_r)) =>
 (.test (decide (t27 < t26))
 (.test (decide ((0 ≤ t27) ∧ (t27 < ((List.length t25) : Int))))
 (.sub (t25[(Int.toNat t27)]?) fun z0 =>
 (.test (decide ((0 = 0) ∧ ((List.length out_r) = (List.length out_r))))
 (.sub (F32_L7 recv ((left, (all, (begin, ((), (t27, ((), (true, (t25, (t26, (t27, (begin, (((List.length begin) : Int), (0 : Int))))))))))))), ((), (out_r, (z0.1, z0.2))))) fun z1 =>
 (.test z1.1.2.2.2.2.2.2.1
 (.test (decide (0 ≤ (w64 (z1.1.2.2.2.2.1 + 1))))
 (.test (decide (((Int.toNat (w64 (z1.1.2.2.2.2.1 + 1))) ≤ (List.length z1.1.2.1)) ∧ ((List.length z1.1.2.1) ≤ (List.length z1.1.2.1))))
 (.test true
 (.test (decide ((2 * ((0 + (List.length z1.1.2.2.1)) * (16 + 1))) ≤ 140737488355328))
 (.test (decide (1 ≤ (List.length (List.set (List.replicate 1 ((0 : Int), (0 : Int))) 0 (z1.2.2.2.1, z1.2.2.2.2)))))
 (.test (decide ((0 + (0 + (List.length z1.1.2.2.1))) ≤ (List.length ((win (List.replicate 0 ((0 : Int), (0 : Int))) 0 0) ++ z1.1.2.2.1))))
 (.test (decide ((2 * (((0 + (List.length z1.1.2.2.1)) + (List.length (win (List.set (List.replicate 1 ((0 : Int), (0 : Int))) 0 (z1.2.2.2.1, z1.2.2.2.2)) 0 1))) * (16 + 1))) ≤ 140737488355328))
 (.test (decide ((0 + ((0 + (List.length z1.1.2.2.1)) + (List.length (win (List.set (List.replicate 1 ((0 : Int), (0 : Int))) 0 (z1.2.2.2.1, z1.2.2.2.2)) 0 1)))) ≤ (List.length ((win ((win (List.replicate 0 ((0 : Int), (0 : Int))) 0 0) ++ z1.1.2.2.1) 0 (0 + (List.length z1.1.2.2.1))) ++ (win (List.set (List.replicate 1 ((0 : Int), (0 : Int))) 0 (z1.2.2.2.1, z1.2.2.2.2)) 0 1)))))
 (.test (decide ((0 = 0) ∧ ((List.length z1.2.2.1) = (List.length z1.2.2.1))))
 (.sub (recv (((w64 (z1.1.1 - 1)), ((win z1.1.2.1 (Int.toNat (w64 (z1.1.2.2.2.2.1 + 1))) ((List.length z1.1.2.1) - (Int.toNat (w64 (z1.1.2.2.2.2.1 + 1))))), ((win ((win ((win (List.replicate 0 ((0 : Int), (0 : Int))) 0 0) ++ z1.1.2.2.1) 0 (0 + (List.length z1.1.2.2.1))) ++ (win (List.set (List.replicate 1 ((0 : Int), (0 : Int))) 0 (z1.2.2.2.1, z1.2.2.2.2)) 0 1)) 0 ((0 + (List.length z1.1.2.2.1)) + (List.length (win (List.set (List.replicate 1 ((0 : Int), (0 : Int))) 0 (z1.2.2.2.1, z1.2.2.2.2)) 0 1)))), ()))), ((), z1.2.2.1))) fun z2 =>
 (.test (decide ((0 = 0) ∧ ((List.length z2.2.2) = (List.length z2.2.2))))
 (.ret (Sum.inl ((z1.1.1, (z1.1.2.1, (z1.1.2.2.1, ((), (z1.1.2.2.2.2.2.2.2.1, (z1.1.2.2.2.2.2.2.2.2.1, (w64 (z1.1.2.2.2.2.2.2.2.2.2 + 1)))))))), ((), z2.2.2))))
 .fail))
 .fail)
 .fail)
 .fail)
 .fail)
 .fail)
 .fail)
 .fail)
 .fail)
 .fail)
 (.test (decide ((0 = 0) ∧ ((List.length z1.2.2.1) = (List.length z1.2.2.1))))
 (.ret (Sum.inl ((z1.1.1, (z1.1.2.1, (z1.1.2.2.1, ((), (z1.1.2.2.2.2.2.2.2.1, (z1.1.2.2.2.2.2.2.2.2.1, (w64 (z1.1.2.2.2.2.2.2.2.2.2 + 1)))))))), ((), z1.2.2.1))))
 .fail)))
 .fail))
 .fail)
 (.test (decide ((0 = 0) ∧ ((List.length out_r) = (List.length out_r))))
 (.ret (Sum.inr ((), ((), out_r))))
 .fail))
noncomputable def F32_L3 (recv : ((Int × List ((Int × Int)) × List ((Int × Int)) × Unit) × (Unit × List (List ((Int × Int))))) → Option (Unit × (Unit × List (List ((Int × Int)))))) (v : ((Int × List ((Int × Int)) × List ((Int × Int)) × Unit × List ((Int × Int)) × Int × Int) × (Unit × List (List ((Int × Int)))))) : Option (Unit × (Unit × List (List ((Int × Int))))) := loopO (fun v => (F32_L3_step recv v).run) v

noncomputable def F32_t (recv : ((Int × List ((Int × Int)) × List ((Int × Int)) × Unit) × (Unit × List (List ((Int × Int))))) → Option (Unit × (Unit × List (List ((Int × Int)))))) : ((Int × List ((Int × Int)) × List ((Int × Int)) × Unit) × (Unit × List (List ((Int × Int))))) → T (Unit × (Unit × List (List ((Int × Int))))) := fun ((left, all, begin, ()), ((), out_r)) =>
 (.test (left == 0)
 (.test true
 (.test (decide ((2 * ((0 + (List.length begin)) * (16 + 1))) ≤ 140737488355328))
 (.test (decide ((0 + (0 + (List.length begin))) ≤ (List.length ((win (List.replicate 0 ((0 : Int), (0 : Int))) 0 0) ++ begin))))
 (.test (decide (1 ≤ (List.length (List.set (List.replicate 1 ([] : List (Int × Int))) 0 (win ((win (List.replicate 0 ((0 : Int), (0 : Int))) 0 0) ++ begin) 0 (0 + (List.length begin)))))))
 (.test (decide ((0 + (List.length out_r)) ≤ (List.length out_r)))
 (.test (decide ((2 * (((List.length out_r) + (List.length (win (List.set (List.replicate 1 ([] : List (Int × Int))) 0 (win ((win (List.replicate 0 ((0 : Int), (0 : Int))) 0 0) ++ begin) 0 (0 + (List.length begin)))) 0 1))) * (24 + 1))) ≤ 140737488355328))
 (.test (decide ((0 = 0) ∧ (((List.length out_r) + (List.length (win (List.set (List.replicate 1 ([] : List (Int × Int))) 0 (win ((win (List.replicate 0 ((0 : Int), (0 : Int))) 0 0) ++ begin) 0 (0 + (List.length begin)))) 0 1))) = (List.length ((win out_r 0 (List.length out_r)) ++ (win (List.set (List.replicate 1 ([] : List (Int × Int))) 0 (win ((win (List.replicate 0 ((0 : Int), (0 : Int))) 0 0) ++ begin) 0 (0 + (List.length begin)))) 0 1))))))
 (.ret ((), ((), ((win out_r 0 (List.length out_r)) ++ (win (List.set (List.replicate 1 ([] : List (Int × Int))) 0 (win ((win (List.replicate 0 ((0 : Int), (0 : Int))) 0 0) ++ begin) 0 (0 + (List.length begin)))) 0 1)))))
 .fail)
 .fail)
 .fail)
 .fail)
 .fail)
 .fail)
 .fail)
 (.test (decide ((0 = 0) ∧ ((List.length out_r) = (List.length out_r))))
 (.sub (F32_L3 recv ((left, (all, (begin, ((), (all, (((List.length all) : Int), (0 : Int))))))), ((), out_r))) fun z0 =>
 (.test (decide ((0 = 0) ∧ ((List.length z0.2.2) = (List.length z0.2.2))))
 (.ret ((), ((), z0.2.2)))
 .fail))
 .fail))
noncomputable def F32_f (recv : ((Int × List ((Int × Int)) × List ((Int × Int)) × Unit) × (Unit × List (List ((Int × Int))))) → Option (Unit × (Unit × List (List ((Int × Int)))))) (v : ((Int × List ((Int × Int)) × List ((Int × Int)) × Unit) × (Unit × List (List ((Int × Int)))))) : Option (Unit × (Unit × List (List ((Int × Int))))) := (F32_t recv v).run
noncomputable def F32 : ((Int × List ((Int × Int)) × List ((Int × Int)) × Unit) × (Unit × List (List ((Int × Int))))) → Option (Unit × (Unit × List (List ((Int × Int))))) := recF F32_f
noncomputable def F32_E (recv : ((Int × List ((Int × Int)) × List ((Int × Int)) × Unit) × (Unit × List (List ((Int × Int))))) → Option (Unit × (Unit × List (List ((Int × Int)))))) : TEnv := ((E0.add1 n_F37 F37_sh F37_fo F37).add1 n_F42 F32_sh F32_fo recv)
theorem F32_Eok (recv : ((Int × List ((Int × Int)) × List ((Int × Int)) × Unit) × (Unit × List (List ((Int × Int))))) → Option (Unit × (Unit × List (List ((Int × Int)))))) (hrec : FOK Try.prog n_F42 F32_sh F32_fo recv) : (F32_E recv).OK := ((E0ok.add1 F37_ok).add1 hrec)
noncomputable def F32_told (recv : ((Int × List ((Int × Int)) × List ((Int × Int)) × Unit) × (Unit × List (List ((Int × Int))))) → Option (Unit × (Unit × List (List ((Int × Int)))))) : Nat → Option SealT := fun id => if id = 7 then some (LSh.told F32_L7_sh 2 (F32_L7_step recv)) else if id = 3 then some (LSh.told F32_L3_sh 2 (F32_L3_step recv)) else none
theorem F32_L7_ok (recv : ((Int × List ((Int × Int)) × List ((Int × Int)) × Unit) × (Unit × List (List ((Int × Int))))) → Option (Unit × (Unit × List (List ((Int × Int)))))) (hrec : FOK Try.prog n_F42 F32_sh F32_fo recv) : ToldOK Try.prog 2 (loopAt (bodyOf fn_F42) [0, 0]) (LSh.told F32_L7_sh 2 (F32_L7_step recv)) :=
  loop_ok (E := F32_E recv) (F32_Eok recv hrec) (told := F32_told recv) (l := F32_L7_sh) (step := F32_L7_step recv) (loopsOK_of (ls := []) (by kernel_rfl) trivial) (by kernel_rfl) (fun v => by kernel_rfl)
theorem F32_L3_ok (recv : ((Int × List ((Int × Int)) × List ((Int × Int)) × Unit) × (Unit × List (List ((Int × Int))))) → Option (Unit × (Unit × List (List ((Int × Int)))))) (hrec : FOK Try.prog n_F42 F32_sh F32_fo recv) : ToldOK Try.prog 2 (loopAt (bodyOf fn_F42) [0]) (LSh.told F32_L3_sh 2 (F32_L3_step recv)) :=
  loop_ok (E := F32_E recv) (F32_Eok recv hrec) (told := F32_told recv) (l := F32_L3_sh) (step := F32_L3_step recv) (loopsOK_of (ls := [loopAt (bodyOf fn_F42) [0, 0]]) (by kernel_rfl) ⟨.inr ⟨_, by kernel_rfl, F32_L7_ok recv hrec⟩, trivial⟩) (by kernel_rfl) (fun v => by kernel_rfl)
theorem F32_okr (recv : ((Int × List ((Int × Int)) × List ((Int × Int)) × Unit) × (Unit × List (List ((Int × Int))))) → Option (Unit × (Unit × List (List ((Int × Int)))))) (hrec : FOK Try.prog n_F42 F32_sh F32_fo recv) : FOK Try.prog n_F42 F32_sh F32_fo (F32_f recv) :=
  fn_ok (E := F32_E recv) (F32_Eok recv hrec) (told := F32_told recv) (fl := []) (c := bodyOf fn_F42) (s := F32_sh) (l := F32_fo) (tree := F32_t recv) fnat_F42 (by kernel_rfl) (by kernel_rfl) (by kernel_rfl) (loopsOK_of (ls := [loopAt (bodyOf fn_F42) [0]]) (by kernel_rfl) ⟨.inr ⟨_, by kernel_rfl, F32_L3_ok recv hrec⟩, trivial⟩) (fun v => by kernel_rfl)
theorem F32_ok : FOK Try.prog n_F42 F32_sh F32_fo F32 := FOK.rec (fun F h => F32_okr F h) recLim

theorem F32_free (recv : _ → Option _) (n : Int) (all b : List Dg) (i t29 t30 : Int) (t28 : List Dg) (d : Dg) (out : List (List Dg)) (hb : b.length < 1000000) :
    F32_L7 recv ((n, (all, (b, ((), (i, ((), (true, (t28, (t29, (t30, (b, ((b.length : Int), (0 : Int))))))))))))), ((), (out, d))) = some ((n, (all, (b, ((), (i, ((), (freeD d b, (t28, (t29, t30))))))))), ((), (out, d))) := by
  obtain ⟨d0, d1⟩ := d
  have key : ∀ m k (f : Bool), k + m = b.length → F32_L7 recv ((n, (all, (b, ((), (i, ((), (f, (t28, (t29, (t30, (b, ((b.length : Int), (k : Int))))))))))))), ((), (out, (d0, d1)))) = some ((n, (all, (b, ((), (i, ((), ((f && !(b.drop k).any (crossD (d0, d1))), (t28, (t29, t30))))))))), ((), (out, (d0, d1)))) := by
    intro m
    induction m with
    | zero =>
      intro k f hk
      have : k = b.length := by omega
      subst this
      simp only [F32_L7]
      exact loopO_done (by simp [F32_L7_step, T.run])
    | succ m ih =>
      intro k f hk
      have hlt : k < b.length := by omega
      have c0 : (k : Int) < (b.length : Int) := by omega
      have c1 : (0 : Int) ≤ (k : Int) ∧ (k : Int) < (b.length : Int) := by omega
      have w1 : w64 ((k : Int) + 1) = ((k + 1 : Nat) : Int) := by rw [w64_id (by omega) (by omega)]; omega
      rw [drop_gD hlt, List.any_cons]
      have ih := ih (k + 1) (f && !crossD (d0, d1) (gD b k)) (by omega)
      simp only [F32_L7] at ih ⊢
      have st : (F32_L7_step recv ((n, (all, (b, ((), (i, ((), (f, (t28, (t29, (t30, (b, ((b.length : Int), (k : Int))))))))))))), ((), (out, (d0, d1))))).run =
          some (.inl ((n, (all, (b, ((), (i, ((), ((f && !crossD (d0, d1) (gD b k)), (t28, (t29, (t30, (b, ((b.length : Int), ((k + 1 : Nat) : Int))))))))))))), ((), (out, (d0, d1))))) := by
        cases f with
        | true => simp only [F32_L7_step, T.run, c0, c1, decide_true, if_true, and_self, true_and, Int.toNat_natCast, gD_some hlt, Option.bind_some, F37_eq, w1, Bool.true_and]
        | false => simp only [F32_L7_step, T.run, c0, c1, decide_true, if_true, and_self, true_and, Int.toNat_natCast, gD_some hlt, Option.bind_some, w1, Bool.false_and, Bool.false_eq_true, if_false]
      rw [loopO_next st, ih]
      congr 2
      cases f <;> cases crossD (d0, d1) (gD b k) <;> simp
  have := key b.length 0 true (by omega)
  simpa [freeD] using this
theorem F32_loop (K : Nat) (t b : List Dg) (recv : _ → Option _) (hn : b.length < K ∧ K ≤ 1000) (ht : t.length ≤ 27) (hb : b.length < 1000) :
    ∀ (m i : Nat) (out : List (List Dg)), i + m = t.length → out.length + 2 ^ m ≤ 1000000000 →
    (∀ (j : Nat) (out : List (List Dg)), i ≤ j → j < t.length → out.length + 2 ^ (t.length - (j + 1)) ≤ 1000000000 →
      recv ((((K - (b.length + 1) : Nat) : Int), (t.drop (j + 1), (b ++ [gD t j], ()))), ((), out)) = some ((), ((), out ++ lookL K (t.drop (j + 1)) (b ++ [gD t j])))) →
    F32_L3 recv ((((K - b.length : Nat) : Int), (t, (b, ((), (t, ((t.length : Int), (i : Int))))))), ((), out)) = some ((), ((), out ++ goL K (t.drop i) b))
  | 0, i, out, hi, ho, hr => by
    have : i = t.length := by omega
    subst this
    rw [List.drop_length]
    simp only [F32_L3, goL, List.append_nil]
    exact loopO_done (by simp [F32_L3_step, T.run])
  | m + 1, i, out, hi, ho, hr => by
    have hlt : i < t.length := by omega
    have c0 : (i : Int) < (t.length : Int) := by omega
    have c2 : (0 : Int) ≤ (i : Int) ∧ (i : Int) < (t.length : Int) := by omega
    have w1 : w64 ((i : Int) + 1) = ((i + 1 : Nat) : Int) := by rw [w64_id (by omega) (by omega)]; omega
    have wl : w64 (((K - b.length : Nat) : Int) - 1) = ((K - (b.length + 1) : Nat) : Int) := by rw [w64_id (by omega) (by omega)]; omega
    have hp : 2 ^ (m + 1) = 2 ^ m + 2 ^ m := by rw [Nat.pow_succ]; omega
    have hp0 : 1 ≤ 2 ^ m := Nat.one_le_two_pow
    have hm : m = t.length - (i + 1) := by omega
    have hfree := F32_free recv ((K - b.length : Nat) : Int) t b (i : Int) (t.length : Int) (i : Int) t (gD t i) out (by omega)
    rw [drop_gD hlt, goL_cons]
    cases hf : freeD (gD t i) b with
    | false =>
      have ih := F32_loop K t b recv hn ht hb m (i + 1) out (by omega) (by omega) (fun j o h1 h2 h3 => hr j o (by omega) h2 h3)
      rw [hf] at hfree
      simp only [Bool.false_eq_true, if_false, List.nil_append]
      simp only [F32_L3] at ih ⊢
      rw [← ih]
      refine loopO_next ?_
      simp only [F32_L3_step, T.run, c0, c2, decide_true, if_true, true_and, and_self, Int.toNat_natCast, gD_some hlt, Option.bind_some, hfree, Bool.false_eq_true, if_false, w1]
    | true =>
      have hrec := hr i out (Nat.le_refl _) hlt (by rw [← hm]; omega)
      have hll := look_pow (t := t) (b := b ++ [gD t i]) (i := i) (k := K) hm
      have ih := F32_loop K t b recv hn ht hb m (i + 1) (out ++ lookL K (t.drop (i + 1)) (b ++ [gD t i])) (by omega) (by rw [List.length_append]; omega) (fun j o h1 h2 h3 => hr j o (by omega) h2 h3)
      rw [hf] at hfree
      simp only [if_true]
      rw [← List.append_assoc]
      simp only [F32_L3] at ih ⊢
      rw [← ih]
      refine loopO_next ?_
      have c1 : (0 : Int) ≤ ((i + 1 : Nat) : Int) := by omega
      have c3 : i + 1 ≤ t.length ∧ t.length ≤ t.length := by omega
      have c4 : 2 * ((0 + b.length) * (16 + 1)) ≤ 140737488355328 := by omega
      have c5 : 2 * ((0 + b.length + 1) * (16 + 1)) ≤ 140737488355328 := by omega
      have hw0 : win ([] : List Dg) 0 0 = [] := rfl
      have hw1 : win b 0 (0 + b.length) = b := by rw [Nat.zero_add]; exact win_all _
      have hl1 : (b ++ [gD t i]).length = 0 + b.length + 1 := by simp
      have hw2 : win (b ++ [gD t i]) 0 (0 + b.length + 1) = b ++ [gD t i] := by rw [← hl1]; exact win_all _
      have hw3 : win t (i + 1) (t.length - (i + 1)) = t.drop (i + 1) := by unfold win; rw [List.take_of_length_le (by rw [List.length_drop]; omega)]
      simp only [F32_L3_step, T.run, c0, c1, c2, c3, c4, c5, decide_true, if_true, true_and, and_self, Int.toNat_natCast, gD_some hlt, Option.bind_some, hfree, w1, wl, List.replicate_zero, hw0, List.nil_append, hw1, win_one, List.length_cons, List.length_nil, hw2, hw3, hrec, List.length_set, List.length_replicate, Nat.le_refl, List.length_append]
      simp
theorem F32_eq (K : Nat) (hK : K ≤ 1000) : ∀ (k : Nat) (t b : List Dg) (out : List (List Dg)), t.length ≤ 27 → t.length < k → b.length + t.length < 100 → b.length ≤ K → out.length + 2 ^ t.length ≤ 1000000000 →
    recN F32_f k ((((K - b.length : Nat) : Int), (t, (b, ()))), ((), out)) = some ((), ((), out ++ lookL K t b))
  | 0, t, b, out, ht, hk, hb, hbK, ho => absurd hk (Nat.not_lt_zero _)
  | k + 1, t, b, out, ht, hk, hb, hbK, ho => by
    show F32_f (recN F32_f k) _ = _
    have hp : 1 ≤ 2 ^ t.length := Nat.one_le_two_pow
    simp only [F32_f, F32_t, T.run]
    by_cases hl : b.length = K
    · have e : (((K - b.length : Nat) : Int) == 0) = true := by simp; omega
      have c1 : 2 * ((out.length + 1) * (24 + 1)) ≤ 140737488355328 := by omega
      have c2 : 2 * (b.length * (16 + 1)) ≤ 140737488355328 := by omega
      have hone : win (List.set (List.replicate 1 ([] : List Dg)) 0 b) 0 1 = [b] := rfl
      have hw0 : win ([] : List Dg) 0 0 = [] := rfl
      have hw1 : win b 0 (0 + b.length) = b := by rw [Nat.zero_add]; exact win_all _
      unfold lookL
      rw [if_pos hl]
      simp only [e, if_true, List.replicate_zero, hw0, List.nil_append, hw1, c2, decide_true, hone, List.length_cons, List.length_nil, c1, win_all, List.length_set, List.length_replicate, Nat.le_refl, List.length_append, true_and, Nat.zero_add]
    · have e : (((K - b.length : Nat) : Int) == 0) = false := by simp; omega
      unfold lookL
      rw [if_neg hl]
      have h3 := F32_loop K t b (recN F32_f k) ⟨by omega, hK⟩ ht (by omega) t.length 0 out (by omega) ho (fun j o h1 h2 h3 => by
        have := F32_eq K hK k (t.drop (j + 1)) (b ++ [gD t j]) o (by rw [List.length_drop]; omega) (by rw [List.length_drop]; omega) (by rw [List.length_drop, List.length_append, List.length_cons, List.length_nil]; omega) (by rw [List.length_append, List.length_singleton]; omega) (by rw [List.length_drop]; exact h3)
        rwa [List.length_append, List.length_singleton] at this)
      rw [List.drop_zero, Int.natCast_zero] at h3
      simp only [e, Bool.false_eq_true, if_false, true_and, decide_true, if_true, h3, Option.bind_some]


def F42_sh : FSh := ⟨[(.one (.si .i64)), (.one (.sl (.pair (.int .i64) (.int .i64)) false false)), (.one (.sl (.pair (.int .i64) (.int .i64)) false false)), (.one (.pf 0 0 0))], [(.rcd 0 [(.nl true true)])]⟩

def F42_L7_sh : LSh := ⟨(fun ex => match ex with | .norm => [(0, none), (1, none), (2, none), (3, none), (8, none), (9, none), (10, none), (25, none), (26, none), (27, none), (32, none), (33, none), (34, none)] | .exit i => if i = 2 then [(0, none), (1, none), (2, none), (3, none), (8, none), (9, none), (10, none), (25, none), (26, none), (27, none)] else if i = 1 then [(0, none), (1, none), (2, none), (3, none), (25, none), (26, none), (27, none)] else if i = 0 then [] else [] | .ret => []), [(0, (.one (.si .i64))), (1, (.one (.sl (.pair (.int .i64) (.int .i64)) false false))), (2, (.one (.sl (.pair (.int .i64) (.int .i64)) false false))), (3, (.one (.pf 0 0 0))), (8, (.one (.si .i64))), (9, (.one (.pf 2 0 0))), (10, (.one .sb)), (25, (.one (.sl (.pair (.int .i64) (.int .i64)) false false))), (26, (.one (.si .i64))), (27, (.one (.si .i64))), (32, (.one (.sl (.pair (.int .i64) (.int .i64)) false false))), (33, (.one (.si .i64))), (34, (.one (.si .i64)))], [(.rcd 0 [(.rw 1 0)]), (.row 0 (.list true (.pair (.int .i64) (.int .i64)))), (.rcd 0 [(.si .i64), (.si .i64)])], [⟨(.exit 2), [(0, (.one (.si .i64))), (1, (.one (.sl (.pair (.int .i64) (.int .i64)) false false))), (2, (.one (.sl (.pair (.int .i64) (.int .i64)) false false))), (3, (.one (.pf 0 0 0))), (8, (.one (.si .i64))), (9, (.one (.pf 2 0 0))), (10, (.one .sb)), (25, (.one (.sl (.pair (.int .i64) (.int .i64)) false false))), (26, (.one (.si .i64))), (27, (.one (.si .i64)))], [(.rcd 0 [(.rw 1 0)]), (.row 0 (.list true (.pair (.int .i64) (.int .i64)))), (.rcd 0 [(.si .i64), (.si .i64)])]⟩], [], []⟩
noncomputable def F42_L7_step : ((Int × List ((Int × Int)) × List ((Int × Int)) × Unit × Int × Unit × Bool × List ((Int × Int)) × Int × Int × List ((Int × Int)) × Int × Int) × (Unit × List (List ((Int × Int))) × (Int × Int))) → T (((Int × List ((Int × Int)) × List ((Int × Int)) × Unit × Int × Unit × Bool × List ((Int × Int)) × Int × Int × List ((Int × Int)) × Int × Int) × (Unit × List (List ((Int × Int))) × (Int × Int))) ⊕ ((Int × List ((Int × Int)) × List ((Int × Int)) × Unit × Int × Unit × Bool × List ((Int × Int)) × Int × Int) × (Unit × List (List ((Int × Int))) × (Int × Int)))) := fun ((left, all, begin, (), i, (), free, t25, t26, t27, t32, t33, t34), ((), out_r, (d_0, d_1))) =>
 (.test (decide (t34 < t33))
 (.test (decide ((0 ≤ t34) ∧ (t34 < ((List.length t32) : Int))))
 (.sub (t32[(Int.toNat t34)]?) fun z0 =>
 (.test free
 (.sub (F37 ((d_0, d_1), (z0.1, z0.2))) fun z1 =>
 (.test (decide ((0 = 0) ∧ ((List.length out_r) = (List.length out_r))))
 (.ret (Sum.inl ((left, (all, (begin, ((), (i, ((), ((! z1), (t25, (t26, (t27, (t32, (t33, (w64 (t34 + 1)))))))))))))), ((), (out_r, (d_0, d_1))))))
 .fail))
 (.test (decide ((0 = 0) ∧ ((List.length out_r) = (List.length out_r))))
 (.ret (Sum.inl ((left, (all, (begin, ((), (i, ((), (false, (t25, (t26, (t27, (t32, (t33, (w64 (t34 + 1)))))))))))))), ((), (out_r, (d_0, d_1))))))
 .fail)))
 .fail)
 (.test (decide ((0 = 0) ∧ ((List.length out_r) = (List.length out_r))))
 (.ret (Sum.inr ((left, (all, (begin, ((), (i, ((), (free, (t25, (t26, t27))))))))), ((), (out_r, (d_0, d_1))))))
 .fail))
noncomputable def F42_L7 (v : ((Int × List ((Int × Int)) × List ((Int × Int)) × Unit × Int × Unit × Bool × List ((Int × Int)) × Int × Int × List ((Int × Int)) × Int × Int) × (Unit × List (List ((Int × Int))) × (Int × Int)))) : Option ((Int × List ((Int × Int)) × List ((Int × Int)) × Unit × Int × Unit × Bool × List ((Int × Int)) × Int × Int) × (Unit × List (List ((Int × Int))) × (Int × Int))) := loopO (fun v => (F42_L7_step v).run) v

def F42_L3_sh : LSh := ⟨(fun ex => match ex with | .norm => [(0, none), (1, none), (2, none), (3, none), (25, none), (26, none), (27, none)] | .exit i => if i = 0 then [] else [] | .ret => []), [(0, (.one (.si .i64))), (1, (.one (.sl (.pair (.int .i64) (.int .i64)) false false))), (2, (.one (.sl (.pair (.int .i64) (.int .i64)) false false))), (3, (.one (.pf 0 0 0))), (25, (.one (.sl (.pair (.int .i64) (.int .i64)) false false))), (26, (.one (.si .i64))), (27, (.one (.si .i64)))], [(.rcd 0 [(.rw 1 0)]), (.row 0 (.list true (.pair (.int .i64) (.int .i64))))], [⟨(.exit 0), [], [(.rcd 0 [(.rw 1 0)]), (.row 0 (.list true (.pair (.int .i64) (.int .i64))))]⟩], [(0, 0, (.list true (.pair (.int .i64) (.int .i64))))], []⟩
noncomputable def F42_L3_step : ((Int × List ((Int × Int)) × List ((Int × Int)) × Unit × List ((Int × Int)) × Int × Int) × (Unit × List (List ((Int × Int))))) → T (((Int × List ((Int × Int)) × List ((Int × Int)) × Unit × List ((Int × Int)) × Int × Int) × (Unit × List (List ((Int × Int))))) ⊕ (Unit × (Unit × List (List ((Int × Int)))))) := fun ((left, all, begin, (), t25, t26, t27), ((), out_r)) =>
 (.test (decide (t27 < t26))
 (.test (decide ((0 ≤ t27) ∧ (t27 < ((List.length t25) : Int))))
 (.sub (t25[(Int.toNat t27)]?) fun z0 =>
 (.test (decide ((0 = 0) ∧ ((List.length out_r) = (List.length out_r))))
 (.sub (F42_L7 ((left, (all, (begin, ((), (t27, ((), (true, (t25, (t26, (t27, (begin, (((List.length begin) : Int), (0 : Int))))))))))))), ((), (out_r, (z0.1, z0.2))))) fun z1 =>
 (.test z1.1.2.2.2.2.2.2.1
 (.test (decide (0 ≤ (w64 (z1.1.2.2.2.2.1 + 1))))
 (.test (decide (((Int.toNat (w64 (z1.1.2.2.2.2.1 + 1))) ≤ (List.length z1.1.2.1)) ∧ ((List.length z1.1.2.1) ≤ (List.length z1.1.2.1))))
 (.test true
 (.test (decide ((2 * ((0 + (List.length z1.1.2.2.1)) * 17)) ≤ 140737488355328))
 (.test (decide (1 ≤ (List.length (List.set (List.replicate 1 ((0 : Int), (0 : Int))) 0 (z1.2.2.2.1, z1.2.2.2.2)))))
 (.test (decide ((0 + (0 + (List.length z1.1.2.2.1))) ≤ (List.length ((win (List.replicate 0 ((0 : Int), (0 : Int))) 0 0) ++ z1.1.2.2.1))))
 (.test (decide ((2 * (((0 + (List.length z1.1.2.2.1)) + (List.length (win (List.set (List.replicate 1 ((0 : Int), (0 : Int))) 0 (z1.2.2.2.1, z1.2.2.2.2)) 0 1))) * 17)) ≤ 140737488355328))
 (.test (decide ((0 + ((0 + (List.length z1.1.2.2.1)) + (List.length (win (List.set (List.replicate 1 ((0 : Int), (0 : Int))) 0 (z1.2.2.2.1, z1.2.2.2.2)) 0 1)))) ≤ (List.length ((win ((win (List.replicate 0 ((0 : Int), (0 : Int))) 0 0) ++ z1.1.2.2.1) 0 (0 + (List.length z1.1.2.2.1))) ++ (win (List.set (List.replicate 1 ((0 : Int), (0 : Int))) 0 (z1.2.2.2.1, z1.2.2.2.2)) 0 1)))))
 (.test (decide ((0 = 0) ∧ ((List.length z1.2.2.1) = (List.length z1.2.2.1))))
 (.sub (F32 (((w64 (z1.1.1 - 1)), ((win z1.1.2.1 (Int.toNat (w64 (z1.1.2.2.2.2.1 + 1))) ((List.length z1.1.2.1) - (Int.toNat (w64 (z1.1.2.2.2.2.1 + 1))))), ((win ((win ((win (List.replicate 0 ((0 : Int), (0 : Int))) 0 0) ++ z1.1.2.2.1) 0 (0 + (List.length z1.1.2.2.1))) ++ (win (List.set (List.replicate 1 ((0 : Int), (0 : Int))) 0 (z1.2.2.2.1, z1.2.2.2.2)) 0 1)) 0 ((0 + (List.length z1.1.2.2.1)) + (List.length (win (List.set (List.replicate 1 ((0 : Int), (0 : Int))) 0 (z1.2.2.2.1, z1.2.2.2.2)) 0 1)))), ()))), ((), z1.2.2.1))) fun z2 =>
 (.test (decide ((0 = 0) ∧ ((List.length z2.2.2) = (List.length z2.2.2))))
 (.ret (Sum.inl ((z1.1.1, (z1.1.2.1, (z1.1.2.2.1, ((), (z1.1.2.2.2.2.2.2.2.1, (z1.1.2.2.2.2.2.2.2.2.1, (w64 (z1.1.2.2.2.2.2.2.2.2.2 + 1)))))))), ((), z2.2.2))))
 .fail))
 .fail)
 .fail)
 .fail)
 .fail)
 .fail)
 .fail)
 .fail)
 .fail)
 .fail)
 (.test (decide ((0 = 0) ∧ ((List.length z1.2.2.1) = (List.length z1.2.2.1))))
 (.ret (Sum.inl ((z1.1.1, (z1.1.2.1, (z1.1.2.2.1, ((), (z1.1.2.2.2.2.2.2.2.1, (z1.1.2.2.2.2.2.2.2.2.1, (w64 (z1.1.2.2.2.2.2.2.2.2.2 + 1)))))))), ((), z1.2.2.1))))
 .fail)))
 .fail))
 .fail)
 (.test (decide ((0 = 0) ∧ ((List.length out_r) = (List.length out_r))))
 (.ret (Sum.inr ((), ((), out_r))))
 .fail))
noncomputable def F42_L3 (v : ((Int × List ((Int × Int)) × List ((Int × Int)) × Unit × List ((Int × Int)) × Int × Int) × (Unit × List (List ((Int × Int)))))) : Option (Unit × (Unit × List (List ((Int × Int))))) := loopO (fun v => (F42_L3_step v).run) v

def F42_fo : List FO := [⟨[], [(.rcd 0 [(.rw 1 0)]), (.row 0 (.list true (.pair (.int .i64) (.int .i64))))]⟩]
noncomputable def F42_t : ((Int × List ((Int × Int)) × List ((Int × Int)) × Unit) × Unit) → T (Unit × (Unit × List (List ((Int × Int))))) := fun ((left, all, begin, ()), ()) =>
 (.test (left == 0)
 (.test true
 (.test (decide ((2 * ((0 + (List.length begin)) * 17)) ≤ 140737488355328))
 (.test (decide ((0 + (0 + (List.length begin))) ≤ (List.length ((win (List.replicate 0 ((0 : Int), (0 : Int))) 0 0) ++ begin))))
 (.test (decide (1 ≤ (List.length (List.set (List.replicate 1 ([] : List (Int × Int))) 0 (win ((win (List.replicate 0 ((0 : Int), (0 : Int))) 0 0) ++ begin) 0 (0 + (List.length begin)))))))
 (.test (decide (¬ (((List.length (win (List.set (List.replicate 1 ([] : List (Int × Int))) 0 (win ((win (List.replicate 0 ((0 : Int), (0 : Int))) 0 0) ++ begin) 0 (0 + (List.length begin)))) 0 1)) = 0) ∧ (0 ≠ 0))))
 (.test (decide ((2 * ((0 + (List.length (win (List.set (List.replicate 1 ([] : List (Int × Int))) 0 (win ((win (List.replicate 0 ((0 : Int), (0 : Int))) 0 0) ++ begin) 0 (0 + (List.length begin)))) 0 1))) * 25)) ≤ 140737488355328))
 (.test (decide ((0 = 0) ∧ ((0 + (List.length (win (List.set (List.replicate 1 ([] : List (Int × Int))) 0 (win ((win (List.replicate 0 ((0 : Int), (0 : Int))) 0 0) ++ begin) 0 (0 + (List.length begin)))) 0 1))) = (List.length (([] : List (List (Int × Int))) ++ (win (List.set (List.replicate 1 ([] : List (Int × Int))) 0 (win ((win (List.replicate 0 ((0 : Int), (0 : Int))) 0 0) ++ begin) 0 (0 + (List.length begin)))) 0 1))))))
 (.ret ((), ((), (([] : List (List (Int × Int))) ++ (win (List.set (List.replicate 1 ([] : List (Int × Int))) 0 (win ((win (List.replicate 0 ((0 : Int), (0 : Int))) 0 0) ++ begin) 0 (0 + (List.length begin)))) 0 1)))))
 .fail)
 .fail)
 .fail)
 .fail)
 .fail)
 .fail)
 .fail)
 (.test true
 (.sub (F42_L3 ((left, (all, (begin, ((), (all, (((List.length all) : Int), (0 : Int))))))), ((), ([] : List (List (Int × Int)))))) fun z0 =>
 (.test (decide ((0 = 0) ∧ ((List.length z0.2.2) = (List.length z0.2.2))))
 (.ret ((), ((), z0.2.2)))
 .fail))
 .fail))
noncomputable def F42 (v : ((Int × List ((Int × Int)) × List ((Int × Int)) × Unit) × Unit)) : Option (Unit × (Unit × List (List ((Int × Int))))) := (F42_t v).run
noncomputable def F42_E : TEnv := ((E0.add1 n_F37 F37_sh F37_fo F37).add1 n_F42 F32_sh F32_fo F32)
theorem F42_Eok : (F42_E).OK := ((E0ok.add1 F37_ok).add1 F32_ok)
noncomputable def F42_told : Nat → Option SealT := fun id => if id = 7 then some (LSh.told F42_L7_sh 1 (F42_L7_step)) else if id = 3 then some (LSh.told F42_L3_sh 1 (F42_L3_step)) else none
theorem F42_L7_ok : ToldOK Try.prog 1 (loopAt (bodyOf fn_F42) [0, 0]) (LSh.told F42_L7_sh 1 (F42_L7_step)) :=
  loop_ok (E := F42_E) (F42_Eok) (told := F42_told) (l := F42_L7_sh) (step := F42_L7_step) (loopsOK_of (ls := []) (by kernel_rfl) trivial) (by kernel_rfl) (fun v => by kernel_rfl)
theorem F42_L3_ok : ToldOK Try.prog 1 (loopAt (bodyOf fn_F42) [0]) (LSh.told F42_L3_sh 1 (F42_L3_step)) :=
  loop_ok (E := F42_E) (F42_Eok) (told := F42_told) (l := F42_L3_sh) (step := F42_L3_step) (loopsOK_of (ls := [loopAt (bodyOf fn_F42) [0, 0]]) (by kernel_rfl) ⟨.inr ⟨_, by kernel_rfl, F42_L7_ok⟩, trivial⟩) (by kernel_rfl) (fun v => by kernel_rfl)
theorem F42_ok : FOK Try.prog n_F42 F42_sh F42_fo F42 :=
  fn_ok (E := F42_E) (F42_Eok) (told := F42_told) (fl := []) (c := bodyOf fn_F42) (s := F42_sh) (l := F42_fo) (tree := F42_t) fnat_F42 (by kernel_rfl) (by kernel_rfl) (by kernel_rfl) (loopsOK_of (ls := [loopAt (bodyOf fn_F42) [0]]) (by kernel_rfl) ⟨.inr ⟨_, by kernel_rfl, F42_L3_ok⟩, trivial⟩) (fun v => by kernel_rfl)

theorem F42_free (n : Int) (all b : List Dg) (i t29 t30 : Int) (t28 : List Dg) (d : Dg) (out : List (List Dg)) (hb : b.length < 1000000) :
    F42_L7 ((n, (all, (b, ((), (i, ((), (true, (t28, (t29, (t30, (b, ((b.length : Int), (0 : Int))))))))))))), ((), (out, d))) = some ((n, (all, (b, ((), (i, ((), (freeD d b, (t28, (t29, t30))))))))), ((), (out, d))) := by
  obtain ⟨d0, d1⟩ := d
  have key : ∀ m k (f : Bool), k + m = b.length → F42_L7 ((n, (all, (b, ((), (i, ((), (f, (t28, (t29, (t30, (b, ((b.length : Int), (k : Int))))))))))))), ((), (out, (d0, d1)))) = some ((n, (all, (b, ((), (i, ((), ((f && !(b.drop k).any (crossD (d0, d1))), (t28, (t29, t30))))))))), ((), (out, (d0, d1)))) := by
    intro m
    induction m with
    | zero =>
      intro k f hk
      have : k = b.length := by omega
      subst this
      simp only [F42_L7]
      exact loopO_done (by simp [F42_L7_step, T.run])
    | succ m ih =>
      intro k f hk
      have hlt : k < b.length := by omega
      have c0 : (k : Int) < (b.length : Int) := by omega
      have c1 : (0 : Int) ≤ (k : Int) ∧ (k : Int) < (b.length : Int) := by omega
      have w1 : w64 ((k : Int) + 1) = ((k + 1 : Nat) : Int) := by rw [w64_id (by omega) (by omega)]; omega
      rw [drop_gD hlt, List.any_cons]
      have ih := ih (k + 1) (f && !crossD (d0, d1) (gD b k)) (by omega)
      simp only [F42_L7] at ih ⊢
      have st : (F42_L7_step ((n, (all, (b, ((), (i, ((), (f, (t28, (t29, (t30, (b, ((b.length : Int), (k : Int))))))))))))), ((), (out, (d0, d1))))).run =
          some (.inl ((n, (all, (b, ((), (i, ((), ((f && !crossD (d0, d1) (gD b k)), (t28, (t29, (t30, (b, ((b.length : Int), ((k + 1 : Nat) : Int))))))))))))), ((), (out, (d0, d1))))) := by
        cases f with
        | true => simp only [F42_L7_step, T.run, c0, c1, decide_true, if_true, and_self, true_and, Int.toNat_natCast, gD_some hlt, Option.bind_some, F37_eq, w1, Bool.true_and]
        | false => simp only [F42_L7_step, T.run, c0, c1, decide_true, if_true, and_self, true_and, Int.toNat_natCast, gD_some hlt, Option.bind_some, w1, Bool.false_and, Bool.false_eq_true, if_false]
      rw [loopO_next st, ih]
      congr 2
      cases f <;> cases crossD (d0, d1) (gD b k) <;> simp
  have := key b.length 0 true (by omega)
  simpa [freeD] using this
theorem F42_loop (K : Nat) (t b : List Dg) (hn : b.length < K ∧ K ≤ 1000) (ht : t.length ≤ 27) (hb : b.length < 50) :
    ∀ (m i : Nat) (out : List (List Dg)), i + m = t.length → out.length + 2 ^ m ≤ 1000000000 →
    F42_L3 ((((K - b.length : Nat) : Int), (t, (b, ((), (t, ((t.length : Int), (i : Int))))))), ((), out)) = some ((), ((), out ++ goL K (t.drop i) b))
  | 0, i, out, hi, ho => by
    have : i = t.length := by omega
    subst this
    rw [List.drop_length]
    simp only [F42_L3, goL, List.append_nil]
    exact loopO_done (by simp [F42_L3_step, T.run])
  | m + 1, i, out, hi, ho => by
    have hlt : i < t.length := by omega
    have c0 : (i : Int) < (t.length : Int) := by omega
    have c2 : (0 : Int) ≤ (i : Int) ∧ (i : Int) < (t.length : Int) := by omega
    have w1 : w64 ((i : Int) + 1) = ((i + 1 : Nat) : Int) := by rw [w64_id (by omega) (by omega)]; omega
    have wl : w64 (((K - b.length : Nat) : Int) - 1) = ((K - (b.length + 1) : Nat) : Int) := by rw [w64_id (by omega) (by omega)]; omega
    have hp : 2 ^ (m + 1) = 2 ^ m + 2 ^ m := by rw [Nat.pow_succ]; omega
    have hp0 : 1 ≤ 2 ^ m := Nat.one_le_two_pow
    have hm : m = t.length - (i + 1) := by omega
    have hfree := F42_free ((K - b.length : Nat) : Int) t b (i : Int) (t.length : Int) (i : Int) t (gD t i) out (by omega)
    rw [drop_gD hlt, goL_cons]
    cases hf : freeD (gD t i) b with
    | false =>
      have ih := F42_loop K t b hn ht hb m (i + 1) out (by omega) (by omega)
      rw [hf] at hfree
      simp only [Bool.false_eq_true, if_false, List.nil_append]
      simp only [F42_L3] at ih ⊢
      rw [← ih]
      refine loopO_next ?_
      simp only [F42_L3_step, T.run, c0, c2, decide_true, if_true, true_and, and_self, Int.toNat_natCast, gD_some hlt, Option.bind_some, hfree, Bool.false_eq_true, if_false, w1]
    | true =>
      have hll := look_pow (t := t) (b := b ++ [gD t i]) (i := i) (k := K) hm
      have hrec : F32 ((((K - (b.length + 1) : Nat) : Int), (t.drop (i + 1), (b ++ [gD t i], ()))), ((), out)) = some ((), ((), out ++ lookL K (t.drop (i + 1)) (b ++ [gD t i]))) :=
        by
          have := F32_eq K hn.2 recLim (t.drop (i + 1)) (b ++ [gD t i]) out (by rw [List.length_drop]; omega) (by rw [List.length_drop]; unfold recLim; omega) (by rw [List.length_drop, List.length_append, List.length_cons, List.length_nil]; omega) (by rw [List.length_append, List.length_singleton]; omega) (by rw [List.length_drop, ← hm]; omega)
          rwa [List.length_append, List.length_singleton] at this
      have ih := F42_loop K t b hn ht hb m (i + 1) (out ++ lookL K (t.drop (i + 1)) (b ++ [gD t i])) (by omega) (by rw [List.length_append]; omega)
      rw [hf] at hfree
      simp only [if_true]
      rw [← List.append_assoc]
      simp only [F42_L3] at ih ⊢
      rw [← ih]
      refine loopO_next ?_
      have c1 : (0 : Int) ≤ ((i + 1 : Nat) : Int) := by omega
      have c3 : i + 1 ≤ t.length ∧ t.length ≤ t.length := by omega
      have c4 : 2 * ((0 + b.length) * 17) ≤ 140737488355328 := by omega
      have c5 : 2 * ((0 + b.length + 1) * 17) ≤ 140737488355328 := by omega
      have hw0 : win ([] : List Dg) 0 0 = [] := rfl
      have hw1 : win b 0 (0 + b.length) = b := by rw [Nat.zero_add]; exact win_all _
      have hl1 : (b ++ [gD t i]).length = 0 + b.length + 1 := by simp
      have hw2 : win (b ++ [gD t i]) 0 (0 + b.length + 1) = b ++ [gD t i] := by rw [← hl1]; exact win_all _
      have hw3 : win t (i + 1) (t.length - (i + 1)) = t.drop (i + 1) := by unfold win; rw [List.take_of_length_le (by rw [List.length_drop]; omega)]
      simp only [F42_L3_step, T.run, c0, c1, c2, c3, c4, c5, decide_true, if_true, true_and, and_self, Int.toNat_natCast, gD_some hlt, Option.bind_some, hfree, w1, wl, List.replicate_zero, hw0, List.nil_append, hw1, win_one, List.length_cons, List.length_nil, hw2, hw3, hrec, List.length_set, List.length_replicate, Nat.le_refl, List.length_append]
      simp
theorem F42_eq (K : Nat) (hK : K ≤ 40) (t : List Dg) (ht : t.length ≤ 27) : F42 (((K : Int), (t, (([] : List Dg), ()))), ()) = some ((), ((), lookL K t [])) := by
  simp only [F42, F42_t, T.run]
  by_cases hl : K = 0
  · subst hl
    have hw0 : win ([] : List Dg) 0 0 = [] := rfl
    have hone : win (List.set (List.replicate 1 ([] : List Dg)) 0 ([] : List Dg)) 0 1 = [[]] := rfl
    have hw9 : win ([[]] : List (List Dg)) 0 1 = [[]] := rfl
    simp [lookL, hw0, hw9]
  · have e : ((K : Int) == 0) = false := by simp; omega
    unfold lookL
    have hne : ¬ ([] : List Dg).length = K := by simp; omega
    rw [if_neg hne]
    have hp : 2 ^ t.length ≤ 2 ^ 27 := Nat.pow_le_pow_right (by omega) ht
    have h27 : (2 : Nat) ^ 27 = 134217728 := by decide
    have h3 := F42_loop K t [] ⟨by simp; omega, by omega⟩ ht (by simp) t.length 0 [] (by omega) (by simp only [List.length_nil]; omega)
    rw [List.drop_zero, Int.natCast_zero, List.nil_append, List.length_nil, Nat.sub_zero] at h3
    simp only [e, Bool.false_eq_true, if_false, decide_true, if_true, h3, Option.bind_some, true_and]


def F47_sh : FSh := ⟨[(.one (.si .i64)), (.one (.si .i64))], []⟩

def F47_L6_sh : LSh := ⟨(fun ex => match ex with | .norm => [(0, none), (1, none), (5, none), (6, none), (7, none)] | .exit i => if i = 2 then [(0, none), (1, none), (5, none), (6, none)] else if i = 1 then [(0, none), (1, none), (5, none), (6, none)] else if i = 0 then [(1, none), (5, none)] else [] | .ret => [(4, none)]), [(0, (.one (.si .i64))), (1, (.one (.si .i64))), (5, (.one (.rw 0 0))), (6, (.one (.si .i64))), (7, (.one (.si .i64)))], [(.row 0 (.pair (.int .i64) (.int .i64)))], [⟨(.exit 2), [(0, (.one (.si .i64))), (1, (.one (.si .i64))), (5, (.one (.rw 0 0))), (6, (.one (.si .i64)))], [(.row 0 (.pair (.int .i64) (.int .i64)))]⟩], [], []⟩
noncomputable def F47_L6_step : ((Int × Int × Unit × Int × Int) × List ((Int × Int))) → T (((Int × Int × Unit × Int × Int) × List ((Int × Int))) ⊕ ((Int × Int × Unit × Int) × List ((Int × Int)))) := fun ((n, diagonals, (), a, b), all) =>
 (.test (decide (b < n))
 (.sub (F28 (n, (a, b))) fun z0 =>
 (.test z0
 (.test (decide (1 ≤ (List.length (List.set (List.replicate 1 ((0 : Int), (0 : Int))) 0 (a, b)))))
 (.test (decide ((0 + (List.length all)) ≤ (List.length all)))
 (.test (decide ((2 * (((List.length all) + (List.length (win (List.set (List.replicate 1 ((0 : Int), (0 : Int))) 0 (a, b)) 0 1))) * 17)) ≤ 140737488355328))
 (.test (decide ((0 = 0) ∧ (((List.length all) + (List.length (win (List.set (List.replicate 1 ((0 : Int), (0 : Int))) 0 (a, b)) 0 1))) = (List.length ((win all 0 (List.length all)) ++ (win (List.set (List.replicate 1 ((0 : Int), (0 : Int))) 0 (a, b)) 0 1))))))
 (.ret (Sum.inl ((n, (diagonals, ((), (a, (w64 (b + 1)))))), ((win all 0 (List.length all)) ++ (win (List.set (List.replicate 1 ((0 : Int), (0 : Int))) 0 (a, b)) 0 1)))))
 .fail)
 .fail)
 .fail)
 .fail)
 (.test (decide ((0 = 0) ∧ ((List.length all) = (List.length all))))
 (.ret (Sum.inl ((n, (diagonals, ((), (a, (w64 (b + 1)))))), all)))
 .fail)))
 (.test (decide ((0 = 0) ∧ ((List.length all) = (List.length all))))
 (.ret (Sum.inr ((n, (diagonals, ((), a))), all)))
 .fail))
noncomputable def F47_L6 (v : ((Int × Int × Unit × Int × Int) × List ((Int × Int)))) : Option ((Int × Int × Unit × Int) × List ((Int × Int))) := loopO (fun v => (F47_L6_step v).run) v

def F47_L3_sh : LSh := ⟨(fun ex => match ex with | .norm => [(0, none), (1, none), (5, none), (6, none)] | .exit i => if i = 0 then [(1, none), (5, none)] else [] | .ret => [(4, none)]), [(0, (.one (.si .i64))), (1, (.one (.si .i64))), (5, (.one (.rw 0 0))), (6, (.one (.si .i64)))], [(.row 0 (.pair (.int .i64) (.int .i64)))], [⟨(.exit 0), [(1, (.one (.si .i64))), (5, (.one (.rw 0 0)))], [(.row 0 (.pair (.int .i64) (.int .i64)))]⟩], [], []⟩
noncomputable def F47_L3_step : ((Int × Int × Unit × Int) × List ((Int × Int))) → T (((Int × Int × Unit × Int) × List ((Int × Int))) ⊕ ((Int × Unit) × List ((Int × Int)))) := fun ((n, diagonals, (), a), all) =>
 (.test (decide (a < n))
 (.test (decide ((0 = 0) ∧ ((List.length all) = (List.length all))))
 (.sub (F47_L6 ((n, (diagonals, ((), (a, (w64 (a + 2)))))), all)) fun z0 =>
 (.test (decide ((0 = 0) ∧ ((List.length z0.2) = (List.length z0.2))))
 (.ret (Sum.inl ((z0.1.1, (z0.1.2.1, ((), (w64 (z0.1.2.2.2 + 1))))), z0.2)))
 .fail))
 .fail)
 (.test (decide ((0 = 0) ∧ ((List.length all) = (List.length all))))
 (.ret (Sum.inr ((diagonals, ()), all)))
 .fail))
noncomputable def F47_L3 (v : ((Int × Int × Unit × Int) × List ((Int × Int)))) : Option ((Int × Unit) × List ((Int × Int))) := loopO (fun v => (F47_L3_step v).run) v

def F47_fo : List FO := [⟨[(.one (.rw 0 0))], [(.row 0 (.list true (.pair (.int .i64) (.int .i64))))]⟩]
noncomputable def F47_t : (Int × Int) → T (Unit × List (List ((Int × Int)))) := fun (n, diagonals) =>
 (.test true
 (.sub (F47_L3 ((n, (diagonals, ((), (0 : Int)))), ([] : List (Int × Int)))) fun z0 =>
 (.test (decide ((0 + (List.length z0.2)) ≤ (List.length z0.2)))
 (.sub (F42 ((z0.1.1, ((win z0.2 0 (List.length z0.2)), (([] : List (Int × Int)), ()))), ())) fun z1 =>
 (.test (decide ((0 = 0) ∧ ((List.length z1.2.2) = (List.length z1.2.2))))
 (.ret ((), z1.2.2))
 .fail))
 .fail))
 .fail)
noncomputable def F47 (v : (Int × Int)) : Option (Unit × List (List ((Int × Int)))) := (F47_t v).run
noncomputable def F47_E : TEnv := ((E0.add1 n_F28 F28_sh F28_fo F28).add1 n_F42 F42_sh F42_fo F42)
theorem F47_Eok : (F47_E).OK := ((E0ok.add1 F28_ok).add1 F42_ok)
noncomputable def F47_told : Nat → Option SealT := fun id => if id = 6 then some (LSh.told F47_L6_sh 0 (F47_L6_step)) else if id = 3 then some (LSh.told F47_L3_sh 0 (F47_L3_step)) else none
theorem F47_L6_ok : ToldOK Try.prog 0 (loopAt (bodyOf fn_F47) [0, 0]) (LSh.told F47_L6_sh 0 (F47_L6_step)) :=
  loop_ok (E := F47_E) (F47_Eok) (told := F47_told) (l := F47_L6_sh) (step := F47_L6_step) (loopsOK_of (ls := []) (by kernel_rfl) trivial) (by kernel_rfl) (fun v => by kernel_rfl)
theorem F47_L3_ok : ToldOK Try.prog 0 (loopAt (bodyOf fn_F47) [0]) (LSh.told F47_L3_sh 0 (F47_L3_step)) :=
  loop_ok (E := F47_E) (F47_Eok) (told := F47_told) (l := F47_L3_sh) (step := F47_L3_step) (loopsOK_of (ls := [loopAt (bodyOf fn_F47) [0, 0]]) (by kernel_rfl) ⟨.inr ⟨_, by kernel_rfl, F47_L6_ok⟩, trivial⟩) (by kernel_rfl) (fun v => by kernel_rfl)
theorem F47_ok : FOK Try.prog n_F47 F47_sh F47_fo F47 :=
  fn_ok (E := F47_E) (F47_Eok) (told := F47_told) (fl := []) (c := bodyOf fn_F47) (s := F47_sh) (l := F47_fo) (tree := F47_t) fnat_F47 (by kernel_rfl) (by kernel_rfl) (by kernel_rfl) (loopsOK_of (ls := [loopAt (bodyOf fn_F47) [0]]) (by kernel_rfl) ⟨.inr ⟨_, by kernel_rfl, F47_L3_ok⟩, trivial⟩) (fun v => by kernel_rfl)

theorem F47_row (n a : Nat) (K : Int) (hn : 3 ≤ n ∧ n ≤ 9) : ∀ (m b : Nat) (out : List Dg), b + m = n → out.length + m ≤ 1000000 →
    F47_L6 (((n : Int), (K, ((), ((a : Int), (b : Int))))), out) = some (((n : Int), (K, ((), (a : Int)))), out ++ rowD n a b)
  | 0, b, out, hb, ho => by
    have : b = n := by omega
    subst this
    rw [rowD_end, List.append_nil]
    simp only [F47_L6]
    exact loopO_done (by simp [F47_L6_step, T.run])
  | m + 1, b, out, hb, ho => by
    have c0 : (b : Int) < (n : Int) := by omega
    have w1 : w64 ((b : Int) + 1) = ((b + 1 : Nat) : Int) := by rw [w64_id (by omega) (by omega)]; omega
    have c1 : 2 * ((out.length + 1) * 17) ≤ 140737488355328 := by omega
    have hd := F28_eq (n : Int) ((a : Int), (b : Int)) (by omega) (by omega)
    rw [rowD_step (by omega : b < n)]
    cases hg : inDg n ((a : Int), (b : Int)) with
    | true =>
      have ih := F47_row n a K hn m (b + 1) (out ++ [((a : Int), (b : Int))]) (by omega) (by simp; omega)
      simp only [F47_L6] at ih ⊢
      rw [hg] at hd
      have st : (F47_L6_step (((n : Int), (K, ((), ((a : Int), (b : Int))))), out)).run = some (.inl (((n : Int), (K, ((), ((a : Int), ((b + 1 : Nat) : Int))))), out ++ [((a : Int), (b : Int))])) := by
        simp only [F47_L6_step, T.run, c0, hd, decide_true, if_true, Option.bind_some, win_one, win_all, List.length_cons, List.length_nil, Nat.zero_add, c1, w1, List.length_set, List.length_replicate, Nat.le_refl, List.length_append, true_and]
      rw [loopO_next st, ih]
      simp
    | false =>
      have ih := F47_row n a K hn m (b + 1) out (by omega) (by omega)
      simp only [F47_L6] at ih ⊢
      rw [hg] at hd
      have st : (F47_L6_step (((n : Int), (K, ((), ((a : Int), (b : Int))))), out)).run = some (.inl (((n : Int), (K, ((), ((a : Int), ((b + 1 : Nat) : Int))))), out)) := by
        simp only [F47_L6_step, T.run, c0, hd, decide_true, if_true, Option.bind_some, Bool.false_eq_true, if_false, w1, true_and]
      rw [loopO_next st, ih]
      simp
theorem F47_rows (n : Nat) (K : Int) (hn : 3 ≤ n ∧ n ≤ 9) : ∀ (m a : Nat) (out : List Dg), a + m = n → out.length ≤ 1000 * a →
    F47_L3 (((n : Int), (K, ((), (a : Int)))), out) = some ((K, ()), out ++ rowsD n a)
  | 0, a, out, ha, ho => by
    have : a = n := by omega
    subst this
    rw [rowsD_end, List.append_nil]
    simp only [F47_L3]
    exact loopO_done (by simp [F47_L3_step, T.run])
  | m + 1, a, out, ha, ho => by
    have c0 : (a : Int) < (n : Int) := by omega
    have w1 : w64 ((a : Int) + 1) = ((a + 1 : Nat) : Int) := by rw [w64_id (by omega) (by omega)]; omega
    have w2 : w64 ((a : Int) + 2) = ((a + 2 : Nat) : Int) := by rw [w64_id (by omega) (by omega)]; omega
    have hr : F47_L6 (((n : Int), (K, ((), ((a : Int), ((a + 2 : Nat) : Int))))), out) = some (((n : Int), (K, ((), (a : Int)))), out ++ rowD n a 0) := by
      by_cases h : a + 2 ≤ n
      · have hr := F47_row n a K hn (n - (a + 2)) (a + 2) out (by omega) (by omega)
        rwa [← rowD_front n a (a + 2) (by omega)] at hr
      · rw [rowD_front n a (a + 1) (by omega), show a + 1 = n by omega, rowD_end, List.append_nil]
        simp only [F47_L6]
        have : ¬ (((a + 2 : Nat) : Int) < (n : Int)) := by omega
        exact loopO_done (by simp only [F47_L6_step, T.run, this]; simp)
    have hl := rowD_len n a 0
    have ih := F47_rows n K hn m (a + 1) (out ++ rowD n a 0) (by omega) (by rw [List.length_append]; omega)
    rw [rowsD_step (by omega : a < n), ← List.append_assoc]
    simp only [F47_L3] at ih ⊢
    rw [← ih]
    refine loopO_next ?_
    simp only [F47_L3_step, T.run, c0, decide_true, if_true, true_and, w1, w2, hr, Option.bind_some]
theorem F47_eq (n K : Nat) (hn : 3 ≤ n ∧ n ≤ 9) (hK : K ≤ 40) : F47 ((n : Int), (K : Int)) = some ((), lookL K (dgL n) []) := by
  have h := F47_rows n (K : Int) hn n 0 [] (by omega) (by simp)
  have e : rowsD n 0 = dgL n := by unfold rowsD; rw [List.drop_zero, dgL_rows]
  rw [e, List.nil_append, Int.natCast_zero] at h
  simp only [F47, F47_t, T.run, decide_true, if_true, h, Option.bind_some, Nat.zero_add, Nat.le_refl, win_all, F42_eq K hK (dgL n) (dgL_len n hn.2)]
  rfl



theorem sorted_ext {l m : List Int} (h1 : l.Pairwise (· < ·)) (h2 : m.Pairwise (· < ·)) (h : ∀ v, v ∈ l ↔ v ∈ m) : l = m := by
  have n1 : l.Nodup := h1.imp fun {a b} h => by omega
  have n2 : m.Nodup := h2.imp fun {a b} h => by omega
  exact List.Perm.eq_of_pairwise (fun a b _ _ g1 g2 => by omega) h1 h2 ((List.perm_ext_iff_of_nodup n1 n2).2 h)
theorem exists_min {α : Type} (f : α → Nat) (p : α → Prop) : ∀ (l : List α), (∃ x ∈ l, p x) → ∃ x ∈ l, p x ∧ ∀ y ∈ l, p y → f x ≤ f y
  | [], h => by obtain ⟨x, hx, _⟩ := h; cases hx
  | a :: l, h => by
    by_cases g : ∃ x ∈ l, p x
    · obtain ⟨x, hx, px, hm⟩ := exists_min f p l g
      by_cases pa : p a
      · by_cases c : f a ≤ f x
        · exact ⟨a, by simp, pa, fun y hy py => by
            rcases List.mem_cons.1 hy with rfl | hy
            · exact Nat.le_refl _
            · exact Nat.le_trans c (hm y hy py)⟩
        · exact ⟨x, by simp [hx], px, fun y hy py => by
            rcases List.mem_cons.1 hy with rfl | hy
            · omega
            · exact hm y hy py⟩
      · exact ⟨x, by simp [hx], px, fun y hy py => by
          rcases List.mem_cons.1 hy with rfl | hy
          · exact absurd py pa
          · exact hm y hy py⟩
    · obtain ⟨x, hx, px⟩ := h
      rcases List.mem_cons.1 hx with rfl | hx
      · exact ⟨x, by simp, px, fun y hy py => by
          rcases List.mem_cons.1 hy with rfl | hy
          · exact Nat.le_refl _
          · exact absurd ⟨y, hy, py⟩ g⟩
      · exact absurd ⟨x, hx, px⟩ g
def covD (ds : List Dg) (k : Dg) (v : Int) : Bool := ds.any fun d => decide (k.1 ≤ d.1 ∧ d.1 < v ∧ v < d.2 ∧ d.2 ≤ k.2 ∧ d ≠ k)
def pcs (n : Nat) (ds : List Dg) (k : Dg) : List Int := (nameL n).filter fun v => decide (k.1 ≤ v ∧ v ≤ k.2) && !covD ds k v
theorem covD_iff {ds : List Dg} {k : Dg} {v : Int} : covD ds k v = true ↔ ∃ d ∈ ds, k.1 ≤ d.1 ∧ d.1 < v ∧ v < d.2 ∧ d.2 ≤ k.2 ∧ d ≠ k := by
  unfold covD
  rw [List.any_eq_true]
  simp only [decide_eq_true_eq]
theorem nameL_iff {n : Nat} {v : Int} : v ∈ nameL n ↔ 0 ≤ v ∧ v < (n : Int) := by
  constructor
  · exact nameL_mem
  · intro h
    exact List.mem_of_getElem? (by rw [nameL_get (p := v.toNat) (by omega)]; rw [Int.toNat_of_nonneg h.1])
theorem pcs_mem {n : Nat} {ds : List Dg} {k : Dg} {v : Int} : v ∈ pcs n ds k ↔ (0 ≤ v ∧ v < (n : Int)) ∧ (k.1 ≤ v ∧ v ≤ k.2) ∧ ∀ d ∈ ds, k.1 ≤ d.1 → d.2 ≤ k.2 → d ≠ k → d.1 < v → v < d.2 → False := by
  unfold pcs
  rw [List.mem_filter, nameL_iff, Bool.and_eq_true, decide_eq_true_eq, Bool.not_eq_true', ← Bool.not_eq_true, covD_iff]
  constructor
  · rintro ⟨h1, h2, h3⟩
    exact ⟨h1, h2, fun d hd a b c e f => h3 ⟨d, hd, a, e, f, b, c⟩⟩
  · rintro ⟨h1, h2, h3⟩
    exact ⟨h1, h2, fun ⟨d, hd, a, e, f, b, c⟩ => h3 d hd a b c e f⟩
theorem pcs_sorted (n : Nat) (ds : List Dg) (k : Dg) : (pcs n ds k).Pairwise (· < ·) := (nameL_sorted n).filter _
def wholeD (n : Nat) : Dg := (0, (n : Int) - 1)
def CutD (n : Nat) (ds : List Dg) : Prop := (∀ d ∈ ds, 0 ≤ d.1 ∧ d.1 + 1 < d.2 ∧ d.2 < (n : Int) ∧ d ≠ wholeD n) ∧ ds.Pairwise fun d e => d ≠ e ∧ crossD d e = false
theorem cross_no {d e : Dg} (h : crossD d e = false) : ¬ (d.1 < e.1 ∧ e.1 < d.2 ∧ d.2 < e.2) ∧ ¬ (e.1 < d.1 ∧ d.1 < e.2 ∧ e.2 < d.2) := by
  unfold crossD at h
  simp only [Bool.or_eq_false_iff, Bool.and_eq_false_iff, decide_eq_false_iff_not] at h
  omega
theorem CutD.apart {n : Nat} {ds : List Dg} (h : CutD n ds) {d e : Dg} (hd : d ∈ wholeD n :: ds) (he : e ∈ wholeD n :: ds) : ¬ (d.1 < e.1 ∧ e.1 < d.2 ∧ d.2 < e.2) := by
  have low : ∀ d ∈ wholeD n :: ds, 0 ≤ d.1 ∧ d.2 < (n : Int) := fun d hd => by
    rcases List.mem_cons.1 hd with rfl | hd
    · simp only [wholeD]; omega
    · have := h.1 d hd; omega
  rcases List.mem_cons.1 hd with rfl | hd
  · have := low e he; simp only [wholeD]; omega
  · rcases List.mem_cons.1 he with rfl | he
    · have := h.1 d hd; simp only [wholeD]; omega
    · by_cases e1 : d = e
      · subst e1; omega
      · obtain ⟨i, hi, ei⟩ := List.getElem_of_mem hd
        obtain ⟨j, hj, ej⟩ := List.getElem_of_mem he
        have hp := List.pairwise_iff_getElem.1 h.2
        rcases Nat.lt_trichotomy i j with c | c | c
        · have := hp i j hi hj c
          rw [ei, ej] at this
          exact (cross_no this.2).1
        · subst c; exact absurd (ei.symm.trans ej) e1
        · have := hp j i hj hi c
          rw [ei, ej] at this
          exact (cross_no this.2).2
theorem CutD.front {n : Nat} {ds es : List Dg} (h : CutD n (ds ++ es)) : CutD n ds := ⟨fun d hd => h.1 d (by simp [hd]), (List.pairwise_append.1 h.2).1⟩
theorem CutD.nodup {n : Nat} {ds : List Dg} (h : CutD n ds) : (wholeD n :: ds).Nodup := by
  rw [List.nodup_cons]
  exact ⟨fun hm => (h.1 _ hm).2.2.2 rfl, h.2.imp fun {a b} h => h.1⟩
structure MoreD (n : Nat) (ds : List Dg) (d k : Dg) : Prop where
  cut : CutD n (ds ++ [d])
  key : k ∈ wholeD n :: ds
  lo : d.1 ∈ pcs n ds k
  hi : d.2 ∈ pcs n ds k
theorem MoreD.enc {n : Nat} {ds : List Dg} {d k : Dg} (h : MoreD n ds d k) : k.1 ≤ d.1 ∧ d.1 + 1 < d.2 ∧ d.2 ≤ k.2 ∧ d ≠ k := by
  have h1 := (pcs_mem.1 h.lo).2.1
  have h2 := (pcs_mem.1 h.hi).2.1
  have h3 := h.cut.1 d (by simp)
  refine ⟨h1.1, h3.2.1, h2.2, fun e => ?_⟩
  subst e
  rcases List.mem_cons.1 h.key with e | e
  · exact h3.2.2.2 e
  · exact ((List.pairwise_append.1 h.cut.2).2.2 d e d (by simp)).1 rfl
theorem MoreD.ap {n : Nat} {ds : List Dg} {d k : Dg} (h : MoreD n ds d k) {e : Dg} (he : e ∈ wholeD n :: ds) : ¬ (d.1 < e.1 ∧ e.1 < d.2 ∧ d.2 < e.2) ∧ ¬ (e.1 < d.1 ∧ d.1 < e.2 ∧ e.2 < d.2) := by
  have he' : e ∈ wholeD n :: (ds ++ [d]) := by
    rcases List.mem_cons.1 he with rfl | he
    · simp
    · simp [he]
  exact ⟨h.cut.apart (by simp) he', h.cut.apart he' (by simp)⟩
theorem more_exists {n : Nat} {ds : List Dg} {d : Dg} (h : CutD n (ds ++ [d])) : ∃ k, MoreD n ds d k := by
  have hd := h.1 d (by simp)
  have ap : ∀ e ∈ ds, ¬ (d.1 < e.1 ∧ e.1 < d.2 ∧ d.2 < e.2) ∧ ¬ (e.1 < d.1 ∧ d.1 < e.2 ∧ e.2 < d.2) := fun e he =>
    ⟨h.apart (by simp) (by simp [he]), h.apart (by simp [he]) (by simp)⟩
  obtain ⟨k, hk, ⟨k1, k2⟩, hm⟩ := exists_min (fun k : Dg => (k.2 - k.1).toNat) (fun k => k.1 ≤ d.1 ∧ d.2 ≤ k.2) (wholeD n :: ds) ⟨wholeD n, by simp, by simp only [wholeD]; omega⟩
  have key : ∀ v, v = d.1 ∨ v = d.2 → v ∈ pcs n ds k := fun v hv => by
    rw [pcs_mem]
    refine ⟨by omega, by omega, fun e he h1 h2 h3 h4 h5 => ?_⟩
    have := ap e he
    have hm := hm e (by simp [he]) (by omega)
    have hne : ¬ (e.1 = k.1 ∧ e.2 = k.2) := fun h => h3 (Prod.ext h.1 h.2)
    omega
  exact ⟨k, h, hk, key _ (.inl rfl), key _ (.inr rfl)⟩
theorem more_unique {n : Nat} {ds : List Dg} {d k l : Dg} (h1 : MoreD n ds d k) (h2 : MoreD n ds d l) : k = l := by
  have e1 := h1.enc
  have e2 := h2.enc
  have c := h1.cut.front
  have a1 := c.apart h1.key h2.key
  have a2 := c.apart h2.key h1.key
  have m1 := (pcs_mem.1 h1.lo).2.2
  have m2 := (pcs_mem.1 h1.hi).2.2
  have m3 := (pcs_mem.1 h2.lo).2.2
  have m4 := (pcs_mem.1 h2.hi).2.2
  have low : ∀ k ∈ wholeD n :: ds, ∀ l ∈ wholeD n :: ds, (k.1 ≤ l.1 ∧ l.2 ≤ k.2) → l ≠ k → l ∈ ds := fun k hk l hl hi hne => by
    rcases List.mem_cons.1 hl with rfl | hl
    · exfalso
      rcases List.mem_cons.1 hk with rfl | hk
      · exact hne rfl
      · have := c.1 k hk
        simp only [wholeD] at hi
        exact this.2.2.2 (Prod.ext (by simp only [wholeD]; omega) (by simp only [wholeD]; omega))
    · exact hl
  apply Classical.byContradiction
  intro hne
  have hne' : ¬ (k.1 = l.1 ∧ k.2 = l.2) := fun h => hne (Prod.ext h.1 h.2)
  have hd1 : ¬ (d.1 = k.1 ∧ d.2 = k.2) := fun h => e1.2.2.2 (Prod.ext h.1 h.2)
  have hd2 : ¬ (d.1 = l.1 ∧ d.2 = l.2) := fun h => e2.2.2.2 (Prod.ext h.1 h.2)
  by_cases g : k.1 ≤ l.1 ∧ l.2 ≤ k.2
  · have hl := low k h1.key l h2.key g (Ne.symm hne)
    have g1 := m1 l hl g.1 g.2 (Ne.symm hne)
    have g2 := m2 l hl g.1 g.2 (Ne.symm hne)
    by_cases c1 : l.1 < d.1
    · exact g1 c1 (by omega)
    · exact g2 (by omega) (by omega)
  · have g : l.1 ≤ k.1 ∧ k.2 ≤ l.2 := by omega
    have hk := low l h2.key k h1.key g hne
    have g1 := m3 k hk g.1 g.2 hne
    have g2 := m4 k hk g.1 g.2 hne
    by_cases c1 : k.1 < d.1
    · exact g1 c1 (by omega)
    · exact g2 (by omega) (by omega)
theorem more_front {n : Nat} {ds : List Dg} {d k : Dg} (h : MoreD n ds d k) : pcs n (ds ++ [d]) k = (pcs n ds k).filter fun v => decide (v ≤ d.1 ∨ d.2 ≤ v) := by
  have e := h.enc
  refine sorted_ext (pcs_sorted ..) ((pcs_sorted ..).filter _) fun v => ?_
  rw [List.mem_filter, pcs_mem, pcs_mem, decide_eq_true_eq]
  constructor
  · rintro ⟨h1, h2, h3⟩
    refine ⟨⟨h1, h2, fun d hd => h3 d (by simp [hd])⟩, ?_⟩
    have : ¬ (d.1 < v ∧ v < d.2) := fun ⟨x, y⟩ => h3 d (by simp) e.1 e.2.2.1 e.2.2.2 x y
    omega
  · rintro ⟨⟨h1, h2, h3⟩, h4⟩
    refine ⟨h1, h2, fun f hf => ?_⟩
    rcases List.mem_append.1 hf with hf | hf
    · exact h3 f hf
    · rw [List.mem_singleton] at hf
      subst hf
      intro _ _ _ g4 g5
      omega
theorem more_mid {n : Nat} {ds : List Dg} {d k : Dg} (h : MoreD n ds d k) : pcs n (ds ++ [d]) d = (pcs n ds k).filter fun v => decide (d.1 ≤ v ∧ v ≤ d.2) := by
  have e := h.enc
  have m1 := (pcs_mem.1 h.lo).2.2
  have m2 := (pcs_mem.1 h.hi).2.2
  refine sorted_ext (pcs_sorted ..) ((pcs_sorted ..).filter _) fun v => ?_
  rw [List.mem_filter, pcs_mem, pcs_mem, decide_eq_true_eq]
  constructor
  · rintro ⟨h1, h2, h3⟩
    refine ⟨⟨h1, by omega, fun f hf g1 g2 g3 g4 g5 => ?_⟩, h2⟩
    have := h.ap (e := f) (by simp [hf])
    have n1 : f ≠ k → ¬ (f.1 < d.1 ∧ d.1 < f.2) := fun g ⟨x, y⟩ => m1 f hf (by omega) (by omega) g x y
    have n2 : f ≠ k → ¬ (f.1 < d.2 ∧ d.2 < f.2) := fun g ⟨x, y⟩ => m2 f hf (by omega) (by omega) g x y
    have n1 := n1 g3
    have n2 := n2 g3
    by_cases c : d.1 ≤ f.1 ∧ f.2 ≤ d.2
    · by_cases c2 : f = d
      · subst c2
        exact ((List.pairwise_append.1 h.cut.2).2.2 f hf f (by simp)).1 rfl
      · exact h3 f (by simp [hf]) c.1 c.2 c2 g4 g5
    · omega
  · rintro ⟨⟨h1, h2, h3⟩, h4⟩
    refine ⟨h1, h4, fun f hf g1 g2 g3 g4 g5 => ?_⟩
    rcases List.mem_append.1 hf with hf | hf
    · refine h3 f hf (by omega) (by omega) (fun hk => ?_) g4 g5
      subst hk
      exact g3 (Prod.ext (by omega) (by omega))
    · rw [List.mem_singleton] at hf
      exact g3 hf
theorem more_else {n : Nat} {ds : List Dg} {d k l : Dg} (h : MoreD n ds d k) (hl : l ∈ wholeD n :: ds) (hne : l ≠ k) : pcs n (ds ++ [d]) l = pcs n ds l := by
  have e := h.enc
  have hd := h.cut.1 d (by simp)
  refine sorted_ext (pcs_sorted ..) (pcs_sorted ..) fun v => ?_
  rw [pcs_mem, pcs_mem]
  constructor
  · rintro ⟨h1, h2, h3⟩
    exact ⟨h1, h2, fun d hd => h3 d (by simp [hd])⟩
  · rintro ⟨h1, h2, h3⟩
    refine ⟨h1, h2, fun f hf g1 g2 g3 g4 g5 => ?_⟩
    rcases List.mem_append.1 hf with hf | hf
    · exact h3 f hf g1 g2 g3 g4 g5
    · rw [List.mem_singleton] at hf
      subst hf
      apply hne
      refine more_unique ⟨h.cut, hl, pcs_mem.2 ⟨by omega, by omega, fun g hg i1 i2 i3 i4 i5 => ?_⟩, pcs_mem.2 ⟨by omega, by omega, fun g hg i1 i2 i3 i4 i5 => ?_⟩⟩ h
      · have a := h.ap (e := g) (by simp [hg])
        exact h3 g hg i1 i2 i3 (by omega) (by omega)
      · have a := h.ap (e := g) (by simp [hg])
        exact h3 g hg i1 i2 i3 (by omega) (by omega)
def splitD (d : Dg) : List (List Int) → List (List Int)
  | [] => []
  | p :: t => if d.1 ∈ p ∧ d.2 ∈ p then p.filter (fun v => decide (v ≤ d.1 ∨ d.2 ≤ v)) :: (t ++ [p.filter fun v => decide (d.1 ≤ v ∧ v ≤ d.2)]) else p :: splitD d t
theorem splitD_at (d : Dg) : ∀ (out : List (List Int)), (∃ p ∈ out, d.1 ∈ p ∧ d.2 ∈ p) → ∃ l p r, out = l ++ p :: r ∧ d.1 ∈ p ∧ d.2 ∈ p ∧ splitD d out = l ++ p.filter (fun v => decide (v ≤ d.1 ∨ d.2 ≤ v)) :: (r ++ [p.filter fun v => decide (d.1 ≤ v ∧ v ≤ d.2)])
  | [], h => by obtain ⟨p, hp, _⟩ := h; cases hp
  | q :: t, h => by
    by_cases c : d.1 ∈ q ∧ d.2 ∈ q
    · exact ⟨[], q, t, rfl, c.1, c.2, by rw [splitD, if_pos c]; rfl⟩
    · obtain ⟨p, hp, h1, h2⟩ := h
      have hp : p ∈ t := by
        rcases List.mem_cons.1 hp with rfl | hp
        · exact absurd ⟨h1, h2⟩ c
        · exact hp
      obtain ⟨l, p, r, e, i1, i2, e2⟩ := splitD_at d t ⟨p, hp, h1, h2⟩
      exact ⟨q :: l, p, r, by rw [e]; rfl, i1, i2, by rw [splitD, if_neg c, e2]; rfl⟩
theorem split_perm {n : Nat} {ds : List Dg} {d : Dg} (h : CutD n (ds ++ [d])) {out : List (List Int)} (ho : out.Perm ((wholeD n :: ds).map (pcs n ds))) :
    (splitD d out).Perm ((wholeD n :: (ds ++ [d])).map (pcs n (ds ++ [d]))) := by
  obtain ⟨k, hk⟩ := more_exists h
  have hmem : pcs n ds k ∈ out := ho.mem_iff.2 (List.mem_map_of_mem hk.key)
  obtain ⟨l, p, r, e, h1, h2, e2⟩ := splitD_at d out ⟨_, hmem, hk.lo, hk.hi⟩
  have hp : p = pcs n ds k := by
    have : p ∈ (wholeD n :: ds).map (pcs n ds) := ho.mem_iff.1 (by rw [e]; simp)
    obtain ⟨k', hk', rfl⟩ := List.mem_map.1 this
    rw [more_unique ⟨h, hk', h1, h2⟩ hk]
  obtain ⟨m1, m2, em⟩ := List.append_of_mem hk.key
  have nd := h.front.nodup
  rw [em] at nd
  have els : ∀ l ∈ m1 ++ m2, pcs n (ds ++ [d]) l = pcs n ds l := fun l hl => by
    refine more_else hk ?_ ?_
    · rw [em]; simp only [List.mem_append, List.mem_cons] at hl ⊢; rcases hl with hl | hl <;> simp [hl]
    · rintro rfl
      have := (List.perm_middle (a := l) (l₁ := m1) (l₂ := m2)).nodup_iff.1 nd
      exact (List.nodup_cons.1 this).1 hl
  have eg : wholeD n :: (ds ++ [d]) = (m1 ++ k :: m2) ++ [d] := by rw [← em]; rfl
  rw [e2, hp, ← more_front hk, ← more_mid hk, eg]
  have ho' : (l ++ r).Perm ((m1 ++ m2).map (pcs n ds)) := by
    rw [e, hp, em] at ho
    rw [List.map_append, List.map_cons] at ho
    have := (List.perm_middle.symm.trans ho).trans List.perm_middle
    rw [List.map_append]
    exact (List.perm_cons _).1 this
  have hmap : (m1 ++ m2).map (pcs n ds) = (m1 ++ m2).map (pcs n (ds ++ [d])) := List.map_congr_left fun l hl => (els l hl).symm
  rw [hmap] at ho'
  have s1 : (l ++ pcs n (ds ++ [d]) k :: (r ++ [pcs n (ds ++ [d]) d])).Perm (pcs n (ds ++ [d]) k :: pcs n (ds ++ [d]) d :: (l ++ r)) := by
    refine List.perm_middle.trans (List.Perm.cons _ ?_)
    rw [← List.append_assoc]
    exact List.perm_append_singleton _ _
  refine s1.trans ?_
  rw [List.map_append, List.map_append, List.map_cons]
  have s2 : (m1.map (pcs n (ds ++ [d])) ++ pcs n (ds ++ [d]) k :: m2.map (pcs n (ds ++ [d])) ++ [d].map (pcs n (ds ++ [d]))).Perm (pcs n (ds ++ [d]) k :: pcs n (ds ++ [d]) d :: (m1 ++ m2).map (pcs n (ds ++ [d]))) := by
    rw [List.append_assoc, List.cons_append]
    refine List.perm_middle.trans (List.Perm.cons _ ?_)
    rw [← List.append_assoc, List.map_append]
    exact List.perm_append_singleton _ _
  exact ((ho'.cons _).cons _).trans s2.symm
def joinD (n : Nat) (ds : List Dg) (a b : Int) : Bool := decide (b - a = 1) || (decide (b - a = (n : Int) - 1) || decide ((a, b) ∈ ds))
theorem joinD_iff {n : Nat} {ds : List Dg} {a b : Int} : joinD n ds a b = true ↔ b - a = 1 ∨ b - a = (n : Int) - 1 ∨ (a, b) ∈ ds := by
  unfold joinD
  simp only [Bool.or_eq_true, decide_eq_true_eq]
theorem key_low {n : Nat} {ds : List Dg} (h : CutD n ds) (hn : 3 ≤ n) {k : Dg} (hk : k ∈ wholeD n :: ds) : 0 ≤ k.1 ∧ k.1 + 1 < k.2 ∧ k.2 < (n : Int) := by
  rcases List.mem_cons.1 hk with rfl | hk
  · simp only [wholeD]; omega
  · have := h.1 k hk; omega
theorem key_ends {n : Nat} {ds : List Dg} (h : CutD n ds) (hn : 3 ≤ n) {k : Dg} (hk : k ∈ wholeD n :: ds) : k.1 ∈ pcs n ds k ∧ k.2 ∈ pcs n ds k := by
  have := key_low h hn hk
  constructor
  · rw [pcs_mem]; exact ⟨by omega, by omega, fun d hd a b c e f => by omega⟩
  · rw [pcs_mem]; exact ⟨by omega, by omega, fun d hd a b c e f => by omega⟩
theorem next_corner {n : Nat} {ds : List Dg} (h : CutD n ds) (hn : 3 ≤ n) {k : Dg} (hk : k ∈ wholeD n :: ds) {i c : Int} (hi : i ∈ pcs n ds k) (h1 : i < c) (h2 : c ≤ k.2) (hj : joinD n ds i c = true) (hne : (i, c) ≠ k)
    (hm : ∀ c', c < c' → c' ≤ k.2 → (i, c') ≠ k → joinD n ds i c' = false) : c ∈ pcs n ds k ∧ ∀ v, i < v → v < c → v ∉ pcs n ds k := by
  have hlow := key_low h hn hk
  obtain ⟨i1, i2, i3⟩ := pcs_mem.1 hi
  have hin : c ≠ i + 1 → (i, c) ∈ ds := fun hc => by
    rcases joinD_iff.1 hj with g | g | g
    · omega
    · exfalso
      rcases List.mem_cons.1 hk with rfl | hk
      · simp only [wholeD] at *
        exact hne (Prod.ext (by simp only; omega) (by simp only; omega))
      · have := (h.1 k hk).2.2.2
        exact this (Prod.ext (by simp only [wholeD]; omega) (by simp only [wholeD]; omega))
    · exact g
  constructor
  · rw [pcs_mem]
    refine ⟨by omega, by omega, fun e he g1 g2 g3 g4 g5 => ?_⟩
    have u := i3 e he g1 g2 g3
    by_cases c1 : e.1 < i
    · exact u c1 (by omega)
    · by_cases c2 : e.1 = i
      · have := hm e.2 g5 g2 (fun hh => g3 (by rw [← hh, ← c2]))
        rw [← Bool.not_eq_true] at this
        exact this (joinD_iff.2 (.inr (.inr (by rw [← c2]; exact he))))
      · have := h.apart (d := (i, c)) (e := e) (by simp [hin (by omega)]) (by simp [he])
        simp only at this
        omega
  · intro v hv1 hv2 hv
    have hd := hin (by omega)
    exact (pcs_mem.1 hv).2.2 (i, c) hd (by simp only; omega) (by simp only; omega) hne hv1 hv2
theorem after_corner {n : Nat} {ds : List Dg} {k : Dg} {i c : Int} (h1 : i < c) (hc : c ∈ pcs n ds k) (hno : ∀ v, i < v → v < c → v ∉ pcs n ds k) :
    ((pcs n ds k).filter fun v => decide (i < v)) = c :: (pcs n ds k).filter fun v => decide (c < v) := by
  refine sorted_ext ((pcs_sorted ..).filter _) ?_ fun v => ?_
  · rw [List.pairwise_cons]
    exact ⟨fun v hv => by rw [List.mem_filter, decide_eq_true_eq] at hv; exact hv.2, (pcs_sorted ..).filter _⟩
  · rw [List.mem_filter, List.mem_cons, List.mem_filter, decide_eq_true_eq, decide_eq_true_eq]
    constructor
    · rintro ⟨g1, g2⟩
      by_cases e : v = c
      · exact .inl e
      · by_cases l : v < c
        · exact absurd g1 (hno v g2 l)
        · exact .inr ⟨g1, by omega⟩
    · rintro (rfl | ⟨g1, g2⟩)
      · exact ⟨hc, h1⟩
      · exact ⟨g1, by omega⟩
theorem pcs_first {n : Nat} {ds : List Dg} (h : CutD n ds) (hn : 3 ≤ n) {k : Dg} (hk : k ∈ wholeD n :: ds) : pcs n ds k = k.1 :: (pcs n ds k).filter fun v => decide (k.1 < v) := by
  have he := (key_ends h hn hk).1
  refine sorted_ext (pcs_sorted ..) ?_ fun v => ?_
  · rw [List.pairwise_cons]
    exact ⟨fun v hv => by rw [List.mem_filter, decide_eq_true_eq] at hv; exact hv.2, (pcs_sorted ..).filter _⟩
  · rw [List.mem_cons, List.mem_filter, decide_eq_true_eq]
    constructor
    · intro hv
      have := (pcs_mem.1 hv).2.1
      by_cases e : v = k.1
      · exact .inl e
      · exact .inr ⟨hv, by omega⟩
    · rintro (rfl | ⟨g1, _⟩)
      · exact he
      · exact g1
theorem pcs_last (n : Nat) (ds : List Dg) (k : Dg) : ((pcs n ds k).filter fun v => decide (k.2 < v)) = [] := by
  rw [List.filter_eq_nil_iff]
  intro v hv
  have := (pcs_mem.1 hv).2.1
  rw [decide_eq_true_eq]; omega
theorem next_exists {n : Nat} {ds : List Dg} {k : Dg} {i : Int} (hw : k.1 + 1 < k.2) (h1 : i < k.2) :
    ∃ c, i < c ∧ c ≤ k.2 ∧ joinD n ds i c = true ∧ (i, c) ≠ k ∧ ∀ c', c < c' → c' ≤ k.2 → (i, c') ≠ k → joinD n ds i c' = false := by
  have key : ∀ (m : Nat) (t : Int), t = i + 1 + (m : Int) → t ≤ k.2 → (∀ c', t < c' → c' ≤ k.2 → (i, c') ≠ k → joinD n ds i c' = false) →
      ∃ c, i < c ∧ c ≤ k.2 ∧ joinD n ds i c = true ∧ (i, c) ≠ k ∧ ∀ c', c < c' → c' ≤ k.2 → (i, c') ≠ k → joinD n ds i c' = false := by
    intro m
    induction m with
    | zero =>
      intro t ht h2 hm
      refine ⟨t, by omega, h2, joinD_iff.2 (.inl (by omega)), fun e => ?_, hm⟩
      rw [← e] at hw
      simp only at hw
      omega
    | succ m ih =>
      intro t ht h2 hm
      by_cases g : joinD n ds i t = true ∧ (i, t) ≠ k
      · exact ⟨t, by omega, h2, g.1, g.2, hm⟩
      · refine ih (t - 1) (by omega) (by omega) fun c' hc1 hc2 hc3 => ?_
        by_cases e : c' = t
        · subst e
          rw [← Bool.not_eq_true]
          exact fun hj => g ⟨hj, hc3⟩
        · exact hm c' (by omega) hc2 hc3
  exact key (k.2 - i - 1).toNat k.2 (by omega) (by omega) fun c' a b => by omega
theorem pcs_len {n : Nat} {ds : List Dg} (h : CutD n ds) (hn : 3 ≤ n) {k : Dg} (hk : k ∈ wholeD n :: ds) : 3 ≤ (pcs n ds k).length ∧ (pcs n ds k).length ≤ n := by
  have hlow := key_low h hn hk
  have hends := key_ends h hn hk
  obtain ⟨c, c1, c2, c3, c4, c5⟩ := next_exists (n := n) (ds := ds) (k := k) (i := k.1) hlow.2.1 (by omega)
  obtain ⟨g1, g2⟩ := next_corner h hn hk hends.1 c1 c2 c3 c4 c5
  have hc : c < k.2 := by
    apply Classical.byContradiction
    intro hh
    exact c4 (Prod.ext rfl (by simp only; omega))
  constructor
  · rw [pcs_first h hn hk, after_corner c1 g1 g2]
    have : k.2 ∈ (pcs n ds k).filter fun v => decide (c < v) := List.mem_filter.2 ⟨hends.2, decide_eq_true hc⟩
    have := List.length_pos_of_mem this
    simp only [List.length_cons]
    omega
  · have := List.length_filter_le (fun v => decide (k.1 ≤ v ∧ v ≤ k.2) && !covD ds k v) (nameL n)
    rw [nameL_length] at this
    exact this
def keysOf (n : Nat) (ds : List Dg) (a : Nat) : List Dg := ((List.range n).filter fun b => decide (a + 1 < b) && joinD n ds (a : Int) (b : Int)).map fun (b : Nat) => ((a : Int), (b : Int))
def specP (n : Nat) (ds : List Dg) : List (List Int) := ((List.range n).flatMap (keysOf n ds)).map (pcs n ds)
theorem keysOf_mem {n : Nat} {ds : List Dg} {a : Nat} {k : Dg} : k ∈ keysOf n ds a ↔ k.1 = (a : Int) ∧ (a : Int) + 1 < k.2 ∧ k.2 < (n : Int) ∧ joinD n ds k.1 k.2 = true := by
  unfold keysOf
  rw [List.mem_map]
  constructor
  · rintro ⟨b, hb, rfl⟩
    rw [List.mem_filter, List.mem_range, Bool.and_eq_true, decide_eq_true_eq] at hb
    exact ⟨rfl, by simp only; omega, by simp only; omega, hb.2.2⟩
  · rintro ⟨h1, h2, h3, h4⟩
    refine ⟨k.2.toNat, ?_, Prod.ext h1.symm (by simp only; omega)⟩
    rw [List.mem_filter, List.mem_range, Bool.and_eq_true, decide_eq_true_eq]
    refine ⟨by omega, by omega, ?_⟩
    rw [Int.toNat_of_nonneg (by omega), ← h1]
    exact h4
theorem specP_perm {n : Nat} {ds : List Dg} (h : CutD n ds) (hn : 3 ≤ n) : (specP n ds).Perm ((wholeD n :: ds).map (pcs n ds)) := by
  unfold specP
  refine List.Perm.map _ ((List.perm_ext_iff_of_nodup ?_ h.nodup).2 fun k => ?_)
  · show List.Pairwise _ _
    rw [List.pairwise_flatMap]
    refine ⟨fun a _ => ?_, ?_⟩
    · unfold keysOf
      rw [List.pairwise_map]
      refine (List.nodup_range.filter _).imp fun {x y} hxy e => hxy ?_
      have := congrArg Prod.snd e
      simp only at this
      omega
    · refine List.nodup_range.imp fun {x y} hxy p hp q hq e => hxy ?_
      have h1 := (keysOf_mem.1 hp).1
      have h2 := (keysOf_mem.1 hq).1
      subst e
      omega
  · rw [List.mem_flatMap]
    constructor
    · rintro ⟨a, ha, hk⟩
      obtain ⟨h1, h2, h3, h4⟩ := keysOf_mem.1 hk
      rw [List.mem_cons]
      rcases joinD_iff.1 h4 with g | g | g
      · omega
      · exact .inl (Prod.ext (by simp only [wholeD]; omega) (by simp only [wholeD]; omega))
      · exact .inr g
    · intro hk
      have := key_low h hn hk
      refine ⟨k.1.toNat, List.mem_range.2 (by omega), keysOf_mem.2 ⟨by omega, by omega, by omega, joinD_iff.2 ?_⟩⟩
      rcases List.mem_cons.1 hk with rfl | hk
      · exact .inr (.inl (by simp only [wholeD]; omega))
      · exact .inr (.inr hk)
def implP (n : Nat) (ds : List Dg) : List (List Int) := ds.foldl (fun out d => splitD d out) [nameL n]
theorem implP_perm (n : Nat) (hn : 3 ≤ n) (ds : List Dg) (h : CutD n ds) : (implP n ds).Perm ((wholeD n :: ds).map (pcs n ds)) := by
  have key : ∀ (es ds : List Dg) (out : List (List Int)), CutD n (ds ++ es) → out.Perm ((wholeD n :: ds).map (pcs n ds)) → (es.foldl (fun out d => splitD d out) out).Perm ((wholeD n :: (ds ++ es)).map (pcs n (ds ++ es))) := by
    intro es
    induction es with
    | nil => intro ds out _ ho; simpa using ho
    | cons d es ih =>
      intro ds out hc ho
      have e : ds ++ d :: es = (ds ++ [d]) ++ es := by simp
      rw [e] at hc ⊢
      exact ih (ds ++ [d]) (splitD d out) hc (split_perm hc.front ho)
  have := key ds [] [nameL n] (by simpa using h) (by
    have : pcs n [] (wholeD n) = nameL n := by
      unfold pcs covD wholeD
      rw [List.filter_eq_self]
      intro v hv
      have := nameL_mem hv
      simp; omega
    simp [this])
  simpa [implP] using this
theorem pieces_same {n : Nat} {ds : List Dg} (hn : 3 ≤ n) (h : CutD n ds) : (implP n ds).Perm (specP n ds) := (implP_perm n hn ds h).trans (specP_perm h hn).symm
theorem implP_len {n : Nat} {ds : List Dg} (hn : 3 ≤ n) (h : CutD n ds) {p : List Int} (hp : p ∈ implP n ds) : 3 ≤ p.length ∧ p.length ≤ n := by
  obtain ⟨k, hk, rfl⟩ := List.mem_map.1 ((implP_perm n hn ds h).mem_iff.1 hp)
  exact pcs_len h hn hk
theorem implP_count {n : Nat} {ds : List Dg} (hn : 3 ≤ n) (h : CutD n ds) : (implP n ds).length = ds.length + 1 := by
  have := (implP_perm n hn ds h).length_eq
  simpa using this


end Go.Proofs.W
