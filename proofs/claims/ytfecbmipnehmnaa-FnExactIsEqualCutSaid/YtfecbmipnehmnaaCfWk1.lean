/- Functions of the program, walked, and what they compute. -/
import Derived.Test.YtfecbmipnehmnaaCfIds
set_option linter.unusedVariables false
set_option linter.unusedSimpArgs false
set_option maxRecDepth 100000
set_option maxHeartbeats 4000000
namespace Go.Proofs.W
open Go Go.Gm Go.Proofs
open Go.RowKit Go.Shelf
def iot (k : Int) (n : Nat) : List Int := (List.range n).map fun (i : Nat) => k + (i : Int)
theorem iot_len (k : Int) (n : Nat) : (iot k n).length = n := by simp [iot]
theorem iot_succ (k : Int) (n : Nat) : iot k (n + 1) = iot k n ++ [k + n] := by simp [iot, List.range_succ]
theorem iot_get (k : Int) {n i : Nat} (h : i < n) : (iot k n)[i]? = some (k + i) := by simp [iot, h]
theorem gcd_toNat_step {a b : Int} (ha : 0 ≤ a) (hb : 0 < b) : Nat.gcd b.toNat (Int.tmod a b).toNat = Nat.gcd a.toNat b.toNat ∧ 0 ≤ Int.tmod a b ∧ Int.tmod a b < b := by
  obtain ⟨m, rfl⟩ := Int.eq_ofNat_of_zero_le ha
  obtain ⟨n, rfl⟩ := Int.eq_ofNat_of_zero_le (Int.le_of_lt hb)
  have e : Int.tmod (m : Int) (n : Int) = ((m % n : Nat) : Int) := rfl
  rw [e]
  simp only [Int.toNat_natCast]
  refine ⟨?_, Int.natCast_nonneg _, ?_⟩
  · rw [Nat.gcd_comm m n, Nat.gcd_rec n m, Nat.gcd_comm]
  · have : n ≠ 0 := by omega
    exact Int.ofNat_lt.2 (Nat.mod_lt m (by omega))
def lowP (num den : Int) : Bool := inB 1 1000000 num && (inB 1 1000000 den && decide (Nat.gcd num.toNat den.toNat = 1))
def upQ (num den : Int) : Int := (num + den - 1) / den
theorem upQ_B {num den : Int} (hn : 1 ≤ num) (hd : 1 ≤ den) : 1 ≤ upQ num den ∧ upQ num den ≤ num ∧ num ≤ upQ num den * den ∧ upQ num den * den - num < den := by
  have h1 := Int.mul_ediv_add_emod (num + den - 1) den
  have h2 := Int.emod_nonneg (num + den - 1) (show den ≠ 0 by omega)
  have h3 := Int.emod_lt_of_pos (num + den - 1) (show 0 < den by omega)
  have h4 : 1 ≤ upQ num den := by
    unfold upQ
    exact (Int.le_ediv_iff_mul_le (by omega)).2 (by omega)
  have h5 : den * upQ num den = upQ num den * den := Int.mul_comm ..
  have h6 : upQ num den ≤ num := by
    unfold upQ
    refine Int.ediv_le_of_le_mul (by omega) ?_
    have : 0 ≤ (num - 1) * (den - 1) := Int.mul_nonneg (by omega) (by omega)
    rw [Int.sub_mul, Int.mul_sub] at this
    omega
  unfold upQ at *
  omega
def posT (l : List Int) : Bool := isTerms l && (decide (l ≠ []) && l.all (inB 1 30))
theorem isPz_len {l : List Int} (h : isPz l = true) : 3 ≤ l.length ∧ l.length ≤ 9 := by
  simp only [isPz, Bool.and_eq_true, inB_iff] at h
  omega
def fillG (l : List Int) (at' n : Int) : Bool × List Int := if isPz l && (inB 0 ((l.length : Int) - 1) at' && (inB 1 ((l.length : Int) - 2) n && decide (l[at'.toNat]? = some 0))) then (true, l.set at'.toNat n) else (false, [])
def openG (l : List Int) (at' : Int) : Bool × List Int := if isPz l && (inB 0 ((l.length : Int) - 1) at' && decide (l[at'.toNat]? ≠ some 0)) then (true, l.set at'.toNat 0) else (false, [])
theorem at_get0 {α : Type} (L : List α) (x : α) (t : List α) : (L ++ x :: t)[L.length]? = some x := by simp
theorem at_get1 {α : Type} (L : List α) (x y : α) (t : List α) : (L ++ x :: y :: t)[L.length + 1]? = some y := by
  rw [List.getElem?_append_right (by omega), show L.length + 1 - L.length = 1 by omega]; rfl
theorem at_get2 {α : Type} (L : List α) (x y z : α) (t : List α) : (L ++ x :: y :: z :: t)[L.length + 2]? = some z := by
  rw [List.getElem?_append_right (by omega), show L.length + 2 - L.length = 2 by omega]; rfl
theorem at_set0 {α : Type} (L : List α) (x v : α) (t : List α) : (L ++ x :: t).set L.length v = L ++ v :: t := by simp
theorem at_set1 {α : Type} (L : List α) (x y v : α) (t : List α) : (L ++ x :: y :: t).set (L.length + 1) v = L ++ x :: v :: t := by
  rw [List.set_append_right _ _ (by omega), show L.length + 1 - L.length = 1 by omega]; rfl
theorem at_set2 {α : Type} (L : List α) (x y z v : α) (t : List α) : (L ++ x :: y :: z :: t).set (L.length + 2) v = L ++ x :: y :: v :: t := by
  rw [List.set_append_right _ _ (by omega), show L.length + 2 - L.length = 2 by omega]; rfl
theorem at_take1 {α : Type} (L : List α) (x : α) (t : List α) : (L ++ x :: t).take (L.length + 1) = L ++ [x] := by
  rw [List.take_append, List.take_of_length_le (by omega), show L.length + 1 - L.length = 1 by omega]; rfl
theorem at_drop2 {α : Type} (L : List α) (x y : α) (t : List α) : (L ++ x :: y :: t).drop (L.length + 2) = t := by
  rw [List.drop_append, List.drop_of_length_le (by omega), show L.length + 2 - L.length = 2 by omega]; rfl
theorem at_split {α : Type} (l : List α) (k : Nat) (h : k + 2 < l.length) : ∃ L x m y R, l = L ++ x :: m :: y :: R ∧ L.length = k := by
  refine ⟨l.take k, l[k], l[k + 1], l[k + 2], l.drop (k + 3), ?_, by simp; omega⟩
  rw [← List.drop_eq_getElem_cons, ← List.drop_eq_getElem_cons, ← List.drop_eq_getElem_cons, List.take_append_drop]
theorem at_split1 {α : Type} (l : List α) (k : Nat) (h : k + 1 < l.length) : ∃ L x y R, l = L ++ x :: y :: R ∧ L.length = k := by
  refine ⟨l.take k, l[k], l[k + 1], l.drop (k + 2), ?_, by simp; omega⟩
  rw [← List.drop_eq_getElem_cons, ← List.drop_eq_getElem_cons, List.take_append_drop]
theorem at_drop1 {α : Type} (L : List α) (x : α) (t : List α) : (L ++ x :: t).drop (L.length + 1) = t := by
  rw [List.drop_append, List.drop_of_length_le (by omega), show L.length + 1 - L.length = 1 by omega]; rfl
theorem loop_listI {α β σ X : Type} {step : α → Option (α ⊕ β)} {xs : List X} (P : Nat → σ → Prop) (emb : Nat → σ → α) (body : σ → X → σ ⊕ β) (fin : σ → β)
    (hs : ∀ k s x, P k s → xs[k]? = some x → step (emb k s) = some (match body s x with | .inl s' => .inl (emb (k + 1) s') | .inr o => .inr o) ∧ ∀ s', body s x = .inl s' → P (k + 1) s')
    (he : ∀ s, P xs.length s → step (emb xs.length s) = some (.inr (fin s))) : ∀ k s, k ≤ xs.length → P k s → loopO step (emb k s) = some (forE body fin (xs.drop k) s) := by
  have key : ∀ n k s, n = xs.length - k → k ≤ xs.length → P k s → loopO step (emb k s) = some (forE body fin (xs.drop k) s) := by
    intro n
    induction n with
    | zero =>
      intro k s hn hk hP
      have : k = xs.length := by omega
      subst this
      rw [loopO_step, he _ hP, List.drop_length]
      rfl
    | succ n ih =>
      intro k s hn hk hP
      have hlt : k < xs.length := by omega
      obtain ⟨h1, h2⟩ := hs k s xs[k] hP (List.getElem?_eq_getElem hlt)
      rw [loopO_step, h1, List.drop_eq_getElem_cons hlt, forE_cons]
      cases hb : body s xs[k] with
      | inl s' => simp only []; exact ih (k + 1) s' (by omega) (by omega) (h2 s' hb)
      | inr o => rfl
  exact fun k s hk hP => key _ k s rfl hk hP
def pzCell (b : UInt8) : Option Int := if b.toNat = 46 then some 0 else if 49 ≤ b.toNat ∧ b.toNat ≤ 57 then some ((b.toNat : Int) - 48) else none
def pzRead : List UInt8 → Option (List Int)
  | [] => some []
  | b :: t => match pzCell b with
    | some z => (pzRead t).map (z :: ·)
    | none => none
theorem forE_pz {β : Type} (fin : List Int → β) (o : β) : ∀ (l : List UInt8) (acc : List Int), forE (fun acc b => match pzCell b with | some z => .inl (acc ++ [z]) | none => .inr o) fin l acc = match pzRead l with | some r => fin (acc ++ r) | none => o
  | [], acc => by simp [forE, pzRead]
  | b :: t, acc => by
    rw [forE_cons, pzRead]
    cases hc : pzCell b with
    | none => rfl
    | some z =>
      simp only []
      rw [forE_pz fin o t]
      cases pzRead t with
      | none => rfl
      | some r => simp
def pzRes (s : List UInt8) : Bool × List Int := if s.length > 9 then (false, []) else match pzRead s with
  | none => (false, [])
  | some r => if isPz r then (true, r) else (false, [])
theorem pzRead_len : ∀ {s : List UInt8} {r : List Int}, pzRead s = some r → r.length = s.length
  | [], r, h => by cases h; rfl
  | b :: t, r, h => by
    rw [pzRead] at h
    split at h
    · obtain ⟨r', h1, rfl⟩ := Option.map_eq_some_iff.1 h
      simp [pzRead_len h1]
    · cases h
theorem pzRes_len (s : List UInt8) : (pzRes s).2.length ≤ 9 := by
  unfold pzRes
  split
  · simp
  · split
    · simp
    · rename_i h
      have := pzRead_len h
      split
      · simp; omega
      · simp
theorem bytesI_get {s : List UInt8} {k : Nat} {b : UInt8} (h : s[k]? = some b) : (bytesI s)[k]? = some (b.toNat : Int) := by unfold bytesI; rw [List.getElem?_map, h]; rfl
theorem bytesI_len (s : List UInt8) : (bytesI s).length = s.length := by unfold bytesI; simp
def fits (p q : List Int) : Bool := decide (p.length = q.length) && !(p.zip q).any fun x => !(x.1 == 0 || x.1 == x.2)
def turnG (l : List Int) (k : Int) : Bool × List Int := if isPz l && inB 0 ((l.length : Int) - 1) k then (true, l.drop k.toNat ++ l.take k.toNat) else (false, [])
theorem turn_facts {l : List Int} {k : Int} (hp : isPz l = true) (hk : inB 0 ((l.length : Int) - 1) k = true) : win l k.toNat (l.length - k.toNat) = l.drop k.toNat ∧ win l 0 (k.toNat - 0) = l.take k.toNat ∧ 0 ≤ k ∧ k.toNat ≤ l.length ∧ l.length ≤ 9 := by
  have := isPz_len hp
  rw [inB_iff] at hk
  refine ⟨?_, win_take _ _, hk.1, by omega, this.2⟩
  unfold win
  rw [List.take_of_length_le (by rw [List.length_drop]; omega)]
def iotD (k : Int) (n : Nat) : List (Int × Int) := (List.range n).map fun (i : Nat) => (k + 2 * (i : Int), k + 2 * (i : Int) + 1)
theorem iotD_len (k : Int) (n : Nat) : (iotD k n).length = n := by simp [iotD]
theorem iotD_succ (k : Int) (n : Nat) : iotD k (n + 1) = iotD k n ++ [(k + 2 * (n : Int), k + 2 * (n : Int) + 1)] := by simp [iotD, List.range_succ]
theorem iotD_get (k : Int) {n i : Nat} (h : i < n) : (iotD k n)[i]? = some (k + 2 * (i : Int), k + 2 * (i : Int) + 1) := by simp [iotD, h]
theorem zip_any_neD : ∀ (a b : List (Int × Int)), a.length = b.length → ((a.zip b).any fun p => !(decide (p.1 = p.2))) = !decide (a = b)
  | [], [], _ => rfl
  | x :: a, y :: b, h => by
    have ih := zip_any_neD a b (by simpa using h)
    rw [List.zip_cons_cons, List.any_cons, ih]
    by_cases hx : x = y <;> simp [hx]

def l_szDiagonalS_sh : FSh := ⟨[(.one (.sl (.pair (.int .i64) (.int .i64)) false false)), (.one (.si .i64))], []⟩

def l_szDiagonalS_fo : List FO := [⟨[(.one (.si .i64))], []⟩]
noncomputable def l_szDiagonalS_t : (List ((Int × Int)) × Int) → T Int := fun (a, left) =>
  (.test (decide ((w64 (left - ((List.length a) : Int))) < 0))
  (.ret (-1))
  (.ret (w64 (left - ((List.length a) : Int)))))
noncomputable def l_szDiagonalS (v : (List ((Int × Int)) × Int)) : Option Int := (l_szDiagonalS_t v).run
noncomputable def l_szDiagonalS_E : TEnv := E0
theorem l_szDiagonalS_Eok : (l_szDiagonalS_E).OK := E0ok
noncomputable def l_szDiagonalS_told : Nat → Option SealT := fun id => none
theorem l_szDiagonalS_ok : FOK Try.prog n_l_szDiagonalS l_szDiagonalS_sh l_szDiagonalS_fo l_szDiagonalS :=
  fn_ok (E := l_szDiagonalS_E) (l_szDiagonalS_Eok) (told := l_szDiagonalS_told) (fl := []) (c := bodyOf fn_l_szDiagonalS) (s := l_szDiagonalS_sh) (l := l_szDiagonalS_fo) (tree := l_szDiagonalS_t) fnat_l_szDiagonalS (by kernel_rfl) (by kernel_rfl) (by kernel_rfl) (loopsOK_of (ls := []) (by kernel_rfl) trivial) (fun v => by kernel_rfl)

theorem l_szDiagonalS_eq (a : List (Int × Int)) (n : Int) (h1 : n.natAbs < 4611686018427387904) (h2 : a.length < 4611686018427387904) : l_szDiagonalS (a, n) = some (if n - a.length < 0 then -1 else n - a.length) := by
  have w : w64 (n - (a.length : Int)) = n - (a.length : Int) := w64_id (by omega) (by omega)
  rw [l_szDiagonalS, l_szDiagonalS_t, T.run_test, w]
  by_cases c : n - (a.length : Int) < 0
  · rw [if_pos (decide_eq_true c), if_pos c, T.run_ret]
  · rw [if_neg (by rw [decide_eq_true_eq]; exact c), if_neg c, T.run_ret]


def l_toDiagonal_sh : FSh := ⟨[(.ag [(.si .i64), (.si .i64)])], []⟩

def l_toDiagonal_fo : List FO := [⟨[(.ag [(.si .i64), (.si .i64)])], []⟩]
noncomputable def l_toDiagonal_t : (Int × Int) → T (Int × Int) := fun (a_0, a_1) =>
  (.ret (a_0, a_1))
noncomputable def l_toDiagonal (v : (Int × Int)) : Option (Int × Int) := (l_toDiagonal_t v).run
noncomputable def l_toDiagonal_E : TEnv := E0
theorem l_toDiagonal_Eok : (l_toDiagonal_E).OK := E0ok
noncomputable def l_toDiagonal_told : Nat → Option SealT := fun id => none
theorem l_toDiagonal_ok : FOK Try.prog n_l_toDiagonal l_toDiagonal_sh l_toDiagonal_fo l_toDiagonal :=
  fn_ok (E := l_toDiagonal_E) (l_toDiagonal_Eok) (told := l_toDiagonal_told) (fl := []) (c := bodyOf fn_l_toDiagonal) (s := l_toDiagonal_sh) (l := l_toDiagonal_fo) (tree := l_toDiagonal_t) fnat_l_toDiagonal (by kernel_rfl) (by kernel_rfl) (by kernel_rfl) (loopsOK_of (ls := []) (by kernel_rfl) trivial) (fun v => by kernel_rfl)

def l_toDiagonalS_sh : FSh := ⟨[(.one (.sl (.pair (.int .i64) (.int .i64)) false false))], []⟩

def l_toDiagonalS_L3_sh : LSh := ⟨(fun ex => match ex with | .norm => [(0, none), (3, none), (4, none)] | .exit i => if i = 0 then [(3, none)] else [] | .ret => [(2, none)]), [(0, (.one (.sl (.pair (.int .i64) (.int .i64)) false false))), (3, (.one (.rw 0 0))), (4, (.one (.si .i64)))], [(.row 0 (.pair (.int .i64) (.int .i64)))], [⟨(.exit 0), [(3, (.one (.rw 0 0)))], [(.row 0 (.pair (.int .i64) (.int .i64)))]⟩], [], []⟩
noncomputable def l_toDiagonalS_L3_step : ((List ((Int × Int)) × Unit × Int) × List ((Int × Int))) → T (((List ((Int × Int)) × Unit × Int) × List ((Int × Int))) ⊕ (Unit × List ((Int × Int)))) := fun ((a, (), i), out) =>
  (.test (decide (i < ((List.length a) : Int)))
  (.test (decide ((0 ≤ i) ∧ (i < ((List.length a) : Int))))
   (.sub (a[(Int.toNat i)]?) fun z0 =>
    (.sub (l_toDiagonal (z0.1, z0.2)) fun z1 =>
    (.test (decide ((0 ≤ i) ∧ (i < ((List.length out) : Int))))
    (.sub (out[(0 + (Int.toNat i))]?) fun z2 =>
     (.test (decide ((0 = 0) ∧ ((List.length out) = (List.length (List.set out (0 + (Int.toNat i)) (z1.1, z1.2))))))
     (.ret (Sum.inl ((a, ((), (w64 (i + 1)))), (List.set out (0 + (Int.toNat i)) (z1.1, z1.2)))))
     .fail))
    .fail)))
   .fail)
  (.test (decide ((0 = 0) ∧ ((List.length out) = (List.length out))))
   (.ret (Sum.inr ((), out)))
   .fail))
noncomputable def l_toDiagonalS_L3 (v : ((List ((Int × Int)) × Unit × Int) × List ((Int × Int)))) : Option (Unit × List ((Int × Int))) := loopO (fun v => (l_toDiagonalS_L3_step v).run) v

def l_toDiagonalS_fo : List FO := [⟨[(.one (.rw 0 0))], [(.row 0 (.pair (.int .i64) (.int .i64)))]⟩]
noncomputable def l_toDiagonalS_t : List ((Int × Int)) → T (Unit × List ((Int × Int))) := fun a =>
  (.test (decide ((0 ≤ ((List.length a) : Int)) ∧ ((((List.length a) : Int) ≤ ((List.length a) : Int)) ∧ (((Int.toNat ((List.length a) : Int)) * 17) ≤ 140737488355328))))
  (.test (decide ((0 = 0) ∧ ((Int.toNat ((List.length a) : Int)) = (List.length (List.replicate (Int.toNat ((List.length a) : Int)) ((0 : Int), (0 : Int)))))))
   (.sub (l_toDiagonalS_L3 ((a, ((), (0 : Int))), (List.replicate (Int.toNat ((List.length a) : Int)) ((0 : Int), (0 : Int))))) fun z0 =>
    (.test (decide ((0 = 0) ∧ ((List.length z0.2) = (List.length z0.2))))
    (.ret ((), z0.2))
    .fail))
   .fail)
  .fail)
noncomputable def l_toDiagonalS (v : List ((Int × Int))) : Option (Unit × List ((Int × Int))) := (l_toDiagonalS_t v).run
noncomputable def l_toDiagonalS_E : TEnv := (E0.add1 n_l_toDiagonal l_toDiagonal_sh l_toDiagonal_fo l_toDiagonal)
theorem l_toDiagonalS_Eok : (l_toDiagonalS_E).OK := (E0ok.add1 l_toDiagonal_ok)
noncomputable def l_toDiagonalS_told : Nat → Option SealT := fun id => if id = 3 then some (LSh.told l_toDiagonalS_L3_sh 0 (l_toDiagonalS_L3_step)) else none
theorem l_toDiagonalS_L3_ok : ToldOK Try.prog 0 (loopAt (bodyOf fn_l_toDiagonalS) [0]) (LSh.told l_toDiagonalS_L3_sh 0 (l_toDiagonalS_L3_step)) :=
  loop_ok (E := l_toDiagonalS_E) (l_toDiagonalS_Eok) (told := l_toDiagonalS_told) (l := l_toDiagonalS_L3_sh) (step := l_toDiagonalS_L3_step) (loopsOK_of (ls := []) (by kernel_rfl) trivial) (by kernel_rfl) (fun v => by kernel_rfl)
theorem l_toDiagonalS_ok : FOK Try.prog n_l_toDiagonalS l_toDiagonalS_sh l_toDiagonalS_fo l_toDiagonalS :=
  fn_ok (E := l_toDiagonalS_E) (l_toDiagonalS_Eok) (told := l_toDiagonalS_told) (fl := []) (c := bodyOf fn_l_toDiagonalS) (s := l_toDiagonalS_sh) (l := l_toDiagonalS_fo) (tree := l_toDiagonalS_t) fnat_l_toDiagonalS (by kernel_rfl) (by kernel_rfl) (by kernel_rfl) (loopsOK_of (ls := [loopAt (bodyOf fn_l_toDiagonalS) [0]]) (by kernel_rfl) ⟨.inr ⟨_, by kernel_rfl, l_toDiagonalS_L3_ok⟩, trivial⟩) (fun v => by kernel_rfl)

theorem l_toDiagonalS_loop (a : List (Int × Int)) (hl : a.length < 1000000000) : ∀ (m i : Nat) (out : List (Int × Int)), i + m = a.length → out.length = a.length → out.take i = a.take i →
    l_toDiagonalS_L3 ((a, ((), (i : Int))), out) = some ((), a) := by
  intro m
  induction m with
  | zero =>
    intro i out hi ho ht
    have e : out = a := by
      rw [show i = a.length by omega, List.take_length] at ht
      rwa [List.take_of_length_le (by omega)] at ht
    simp only [l_toDiagonalS_L3]
    refine loopO_done ?_
    rw [l_toDiagonalS_L3_step, T.run_test, if_neg (by rw [decide_eq_true_eq]; omega), T.run_test, if_pos (by simp), T.run_ret, e]
  | succ m ih =>
    intro i out hi ho ht
    have hlt : i < a.length := by omega
    have w1 : w64 ((i : Int) + 1) = ((i + 1 : Nat) : Int) := by rw [w64_id (by omega) (by omega)]; omega
    have := ih (i + 1) (out.set i a[i]) (by omega) (by rw [List.length_set]; omega) (by
      rw [List.take_add_one, List.take_add_one, List.take_set_of_le (Nat.le_refl _), ht, List.getElem?_set_self (by omega), List.getElem?_eq_getElem hlt])
    simp only [l_toDiagonalS_L3] at this ⊢
    rw [← this]
    refine loopO_next ?_
    rw [l_toDiagonalS_L3_step, T.run_test, if_pos (decide_eq_true (by omega)), T.run_test, if_pos (decide_eq_true (by omega)), T.run_sub, Int.toNat_natCast, List.getElem?_eq_getElem hlt, Option.bind_some, T.run_sub, l_toDiagonal, l_toDiagonal_t, T.run_ret, Option.bind_some, T.run_test, if_pos (decide_eq_true (by omega)), T.run_sub, Nat.zero_add, List.getElem?_eq_getElem (show i < out.length by omega), Option.bind_some, T.run_test, if_pos (by simp), T.run_ret, w1]
theorem l_toDiagonalS_eq (a : List (Int × Int)) (hl : a.length < 1000000000) : l_toDiagonalS a = some ((), a) := by
  have h := l_toDiagonalS_loop a hl a.length 0 (List.replicate a.length (0, 0)) (by omega) (by simp) (by simp)
  rw [Int.natCast_zero] at h
  rw [l_toDiagonalS, l_toDiagonalS_t, T.run_test, if_pos (decide_eq_true (by omega)), T.run_test, if_pos (by simp), T.run_sub, Int.toNat_natCast, h, Option.bind_some, T.run_test, if_pos (by simp), T.run_ret]


def s_l1In_sh : FSh := ⟨[(.one (.si .i64)), (.one (.si .i64)), (.one (.si .i64))], []⟩

def s_l1In_fo : List FO := [⟨[(.one .sb)], []⟩]
noncomputable def s_l1In_t : (Int × Int × Int) → T Bool := fun (n, lo, hi) =>
  (.test (decide (n ≥ lo))
  (.ret (decide (n ≤ hi)))
  (.ret false))
noncomputable def s_l1In (v : (Int × Int × Int)) : Option Bool := (s_l1In_t v).run
noncomputable def s_l1In_E : TEnv := E0
theorem s_l1In_Eok : (s_l1In_E).OK := E0ok
noncomputable def s_l1In_told : Nat → Option SealT := fun id => none
theorem s_l1In_ok : FOK Try.prog n_s_l1In s_l1In_sh s_l1In_fo s_l1In :=
  fn_ok (E := s_l1In_E) (s_l1In_Eok) (told := s_l1In_told) (fl := []) (c := bodyOf fn_s_l1In) (s := s_l1In_sh) (l := s_l1In_fo) (tree := s_l1In_t) fnat_s_l1In (by kernel_rfl) (by kernel_rfl) (by kernel_rfl) (loopsOK_of (ls := []) (by kernel_rfl) trivial) (fun v => by kernel_rfl)

theorem s_l1In_eq (n low high : Int) : s_l1In (n, low, high) = some (inB low high n) := by
  simp only [s_l1In, s_l1In_t, T.run, ge_iff_le, decide_eq_true_eq, inB]
  by_cases h : low ≤ n <;> simp [h]


def s_poIs_sh : FSh := ⟨[(.one (.si .i64))], []⟩

def s_poIs_fo : List FO := [⟨[(.one .sb)], []⟩]
noncomputable def s_poIs_t : Int → T Bool := fun n =>
  (.sub (s_l1In (n, ((3 : Int), (12 : Int)))) fun z0 =>
  (.ret z0))
noncomputable def s_poIs (v : Int) : Option Bool := (s_poIs_t v).run
noncomputable def s_poIs_E : TEnv := (E0.add1 n_s_l1In s_l1In_sh s_l1In_fo s_l1In)
theorem s_poIs_Eok : (s_poIs_E).OK := (E0ok.add1 s_l1In_ok)
noncomputable def s_poIs_told : Nat → Option SealT := fun id => none
theorem s_poIs_ok : FOK Try.prog n_s_poIs s_poIs_sh s_poIs_fo s_poIs :=
  fn_ok (E := s_poIs_E) (s_poIs_Eok) (told := s_poIs_told) (fl := []) (c := bodyOf fn_s_poIs) (s := s_poIs_sh) (l := s_poIs_fo) (tree := s_poIs_t) fnat_s_poIs (by kernel_rfl) (by kernel_rfl) (by kernel_rfl) (loopsOK_of (ls := []) (by kernel_rfl) trivial) (fun v => by kernel_rfl)


abbrev Dg := Int × Int
def nbB (n i : Nat) : Nat := (i + n - 1) % n
def nbC (n i : Nat) : Nat := (i + 1) % n
def decAt (l : List Int) (p : Nat) : List Int := l.set p (w64 (l.getD p 0 - 1))
/-- A list with the ear at a place cut off. -/
def cutL (l : List Int) (i : Nat) : List Int := (decAt (decAt l (nbB l.length i)) (nbC l.length i)).eraseIdx i
def cutD (names : List Int) (i : Nat) : Dg :=
  (min (names.getD (nbB names.length i) 0) (names.getD (nbC names.length i) 0), max (names.getD (nbB names.length i) 0) (names.getD (nbC names.length i) 0))
def ear (l : List Int) : Option Nat := l.findIdx? (fun x => (1 : Int) == x)
def okC (l : List Int) (i : Nat) : Bool := decide (1 ≤ w64 (l.getD (nbB l.length i) 0 - 1) ∧ 1 ≤ w64 (l.getD (nbC l.length i) 0 - 1))
/-- Ears are cut off until three corners are left. -/
def tri : Nat → List Int → List Int → Option (List Dg)
  | 0, l, _ => if l = [1, 1, 1] then some [] else none
  | k + 1, l, names => match ear l with
    | none => none
    | some i => (tri k (cutL l i) (names.eraseIdx i)).map (cutD names i :: ·)
/-- .. with a look at the two neighbours. -/
def triS : Nat → List Int → List Int → Option (List Dg)
  | 0, l, _ => if l = [1, 1, 1] then some [] else none
  | k + 1, l, names => match ear l with
    | none => none
    | some i => if okC l i then (triS k (cutL l i) (names.eraseIdx i)).map (cutD names i :: ·) else none
def cntD (d : Dg) (m : Int) : Int := (if d.1 = m then 1 else 0) + (if d.2 = m then 1 else 0)
def cnt (ds : List Dg) (m : Int) : Int := ds.foldr (fun d s => cntD d m + s) 0
def crossD (d e : Dg) : Bool := (decide (d.1 < e.1) && decide (e.1 < d.2) && decide (d.2 < e.2)) || (decide (e.1 < d.1) && decide (d.1 < e.2) && decide (e.2 < d.2))
def Ends (names : List Int) (d : Dg) : Prop := d.1 ∈ names ∧ d.2 ∈ names ∧ d.1 < d.2 ∧ (∃ m ∈ names, d.1 < m ∧ m < d.2) ∧ (∃ m ∈ names, m < d.1 ∨ d.2 < m)
def Apart (d e : Dg) : Prop := d ≠ e ∧ crossD d e = false
def Good (names : List Int) (ds : List Dg) : Prop := (∀ d ∈ ds, Ends names d) ∧ ds.Pairwise Apart
theorem nb_facts {n i : Nat} (hn : 3 ≤ n) (hi : i < n) : nbB n i < n ∧ nbC n i < n ∧ nbB n i ≠ i ∧ nbC n i ≠ i ∧ nbB n i ≠ nbC n i ∧
    ((i = 0 ∧ nbB n i = n - 1 ∧ nbC n i = 1) ∨ (i = n - 1 ∧ nbB n i = n - 2 ∧ nbC n i = 0) ∨ (0 < i ∧ i < n - 1 ∧ nbB n i = i - 1 ∧ nbC n i = i + 1)) := by
  unfold nbB nbC
  by_cases h0 : i = 0
  · subst h0
    rw [Nat.mod_eq_of_lt (by omega), Nat.mod_eq_of_lt (by omega)]
    omega
  · rw [show i + n - 1 = (i - 1) + n by omega, Nat.add_mod_right, Nat.mod_eq_of_lt (by omega)]
    by_cases h1 : i = n - 1
    · subst h1
      rw [show n - 1 + 1 = n by omega, Nat.mod_self]
      omega
    · rw [Nat.mod_eq_of_lt (by omega)]
      omega
theorem ear_lt {l : List Int} {i : Nat} (h : ear l = some i) : i < l.length ∧ l[i]? = some 1 := by
  obtain ⟨h1, h2, _⟩ := List.findIdx?_eq_some_iff_getElem.1 h
  refine ⟨h1, ?_⟩
  rw [List.getElem?_eq_getElem h1]
  simp at h2
  rw [← h2]
theorem decAt_length (l : List Int) (p : Nat) : (decAt l p).length = l.length := by simp [decAt]
theorem cutL_length {l : List Int} {i : Nat} (h : i < l.length) : (cutL l i).length = l.length - 1 := by
  unfold cutL
  rw [List.length_eraseIdx, decAt_length, decAt_length, if_pos h]
/-- What a cut list holds. -/
def cutV (l : List Int) (i p : Nat) : Int := if p = nbB l.length i ∨ p = nbC l.length i then w64 (l.getD p 0 - 1) else l.getD p 0
theorem dec2_get {l : List Int} {i p : Nat} (hn : 3 ≤ l.length) (hi : i < l.length) (hp : p < l.length) :
    (decAt (decAt l (nbB l.length i)) (nbC l.length i))[p]? = some (cutV l i p) := by
  obtain ⟨h1, h2, h3, h4, h5, _⟩ := nb_facts hn hi
  unfold decAt cutV
  by_cases e1 : nbC l.length i = p
  · subst e1
    rw [List.getElem?_set_self (by simpa using h2), if_pos (.inr rfl)]
    simp only [List.getD_eq_getElem?_getD, List.getElem?_set_ne h5]
  · rw [List.getElem?_set_ne e1]
    by_cases e2 : nbB l.length i = p
    · subst e2
      rw [List.getElem?_set_self h1, if_pos (.inl rfl)]
    · rw [List.getElem?_set_ne e2, if_neg (by omega), List.getD_eq_getElem?_getD, List.getElem?_eq_getElem hp]
      rfl
theorem cutL_get {l : List Int} {i p : Nat} (hn : 3 ≤ l.length) (hi : i < l.length) (hp : p < l.length) (hpi : p ≠ i) :
    (cutL l i)[if p < i then p else p - 1]? = some (cutV l i p) := by
  unfold cutL
  rw [List.getElem?_eraseIdx]
  by_cases h : p < i
  · simp only [h, if_true]
    exact dec2_get hn hi hp
  · simp only [h, if_false]
    rw [if_neg (by omega), show p - 1 + 1 = p by omega]
    exact dec2_get hn hi hp
theorem erase_get {X : Type} {names : List X} {i p : Nat} (hpi : p ≠ i) : (names.eraseIdx i)[if p < i then p else p - 1]? = names[p]? := by
  rw [List.getElem?_eraseIdx]
  by_cases h : p < i
  · simp [h]
  · simp only [h, if_false]
    rw [if_neg (by omega), show p - 1 + 1 = p by omega]
theorem erase_mem {X : Type} {names : List X} {i : Nat} {m : X} (h : m ∈ names.eraseIdx i) : ∃ p, p ≠ i ∧ names[p]? = some m := by
  obtain ⟨j, hj1, hj2⟩ := List.mem_eraseIdx_iff_getElem?.1 h
  exact ⟨j, hj1, hj2⟩
theorem sorted_get {names : List Int} (hs : names.Pairwise (· < ·)) {p q : Nat} (h : p < q) {a b : Int} (ha : names[p]? = some a) (hb : names[q]? = some b) : a < b := by
  obtain ⟨h1, e1⟩ := List.getElem?_eq_some_iff.1 ha
  obtain ⟨h2, e2⟩ := List.getElem?_eq_some_iff.1 hb
  rw [← e1, ← e2]
  exact List.pairwise_iff_getElem.1 hs p q h1 h2 h
theorem sorted_inj {names : List Int} (hs : names.Pairwise (· < ·)) {p q : Nat} {a : Int} (ha : names[p]? = some a) (hb : names[q]? = some a) : p = q := by
  rcases Nat.lt_trichotomy p q with h | h | h
  · have := sorted_get hs h ha hb; omega
  · exact h
  · have := sorted_get hs h hb ha; omega
theorem getD_some {X : Type} {l : List X} {p : Nat} {a d : X} (h : l[p]? = some a) : l.getD p d = a := by rw [List.getD_eq_getElem?_getD, h]; rfl
/-- The diagonal of a cut ear, among the names. -/
theorem cutD_facts {names : List Int} (hs : names.Pairwise (· < ·)) {i : Nat} (hn : 4 ≤ names.length) (hi : i < names.length) :
    Ends names (cutD names i) ∧ (cutD names i).1 ∈ names.eraseIdx i ∧ (cutD names i).2 ∈ names.eraseIdx i ∧
    ((∀ m ∈ names.eraseIdx i, ¬ ((cutD names i).1 < m ∧ m < (cutD names i).2)) ∨ (∀ m ∈ names.eraseIdx i, ¬ (m < (cutD names i).1 ∨ (cutD names i).2 < m))) ∧
    ∀ p m, names[p]? = some m → cntD (cutD names i) m = if p = nbB names.length i ∨ p = nbC names.length i then 1 else 0 := by
  obtain ⟨h1, h2, h3, h4, h5, h6⟩ := nb_facts (by omega : 3 ≤ names.length) hi
  have gb := List.getElem?_eq_getElem h1
  have gc := List.getElem?_eq_getElem h2
  have gi := List.getElem?_eq_getElem hi
  have hmem : ∀ p, p ≠ i → ∀ m, names[p]? = some m → m ∈ names.eraseIdx i := fun p hp m hm => List.mem_eraseIdx_iff_getElem?.2 ⟨p, hp, hm⟩
  have mb := hmem _ h3 _ gb
  have mc := hmem _ h4 _ gc
  have hD : cutD names i = (min names[nbB names.length i] names[nbC names.length i], max names[nbB names.length i] names[nbC names.length i]) := by
    unfold cutD; rw [getD_some gb, getD_some gc]
  have hE : ∀ {m}, m ∈ names.eraseIdx i → ∃ p, p ≠ i ∧ names[p]? = some m := fun h => erase_mem h
  have g0 := List.getElem?_eq_getElem (show 0 < names.length by omega)
  have g1 := List.getElem?_eq_getElem (show 1 < names.length by omega)
  have g2 := List.getElem?_eq_getElem (show 2 < names.length by omega)
  have gl := List.getElem?_eq_getElem (show names.length - 1 < names.length by omega)
  have key : ∀ a b : Int, (names[nbB names.length i] = a ∧ names[nbC names.length i] = b ∨ names[nbB names.length i] = b ∧ names[nbC names.length i] = a) → a < b → (cutD names i) = (a, b) := by
    intro a b h hab
    rw [hD]
    rcases h with ⟨e1, e2⟩ | ⟨e1, e2⟩ <;> rw [e1, e2] <;> simp only [Prod.mk.injEq] <;> constructor <;> omega
  have hcnt : ∀ p m, names[p]? = some m → cntD (cutD names i) m = if p = nbB names.length i ∨ p = nbC names.length i then 1 else 0 := by
    intro p m hm
    have e1 : p = nbB names.length i ↔ names[nbB names.length i] = m := ⟨fun e => by subst e; rw [gb] at hm; exact Option.some.inj hm, fun e => sorted_inj hs hm (by rw [gb, e])⟩
    have e2 : p = nbC names.length i ↔ names[nbC names.length i] = m := ⟨fun e => by subst e; rw [gc] at hm; exact Option.some.inj hm, fun e => sorted_inj hs hm (by rw [gc, e])⟩
    rw [hD]
    unfold cntD
    simp only []
    by_cases c1 : p = nbB names.length i
    · have c2 : ¬ p = nbC names.length i := by omega
      have d1 := e1.1 c1
      have d2 : ¬ names[nbC names.length i] = m := fun e => c2 (e2.2 e)
      simp only [c1, true_or, if_true]
      split <;> split <;> omega
    · have d1 : ¬ names[nbB names.length i] = m := fun e => c1 (e1.2 e)
      by_cases c2 : p = nbC names.length i
      · have d2 := e2.1 c2
        simp only [c2, or_true, if_true]
        split <;> split <;> omega
      · have d2 : ¬ names[nbC names.length i] = m := fun e => c2 (e2.2 e)
        rw [if_neg (by omega : ¬ (p = nbB names.length i ∨ p = nbC names.length i))]
        split <;> split <;> omega
  rcases h6 with ⟨hi0, hb, hc⟩ | ⟨hi0, hb, hc⟩ | ⟨hi0, hi1, hb, hc⟩
  · have lt1 := sorted_get hs (show nbC names.length i < nbB names.length i by omega) gc gb
    have e := key _ _ (.inr ⟨rfl, rfl⟩) lt1
    rw [e]
    refine ⟨⟨List.mem_of_getElem? gc, List.mem_of_getElem? gb, lt1, ⟨_, List.mem_of_getElem? g2, sorted_get hs (by omega) gc g2, sorted_get hs (by omega) g2 gb⟩, ⟨_, List.mem_of_getElem? g0, .inl (sorted_get hs (by omega) g0 gc)⟩⟩, mc, mb, .inr ?_, ?_⟩
    · intro m hm
      obtain ⟨p, hp, hpm⟩ := hE hm
      have := getElem?_lt hpm
      rintro (h | h)
      · have : ¬ nbC names.length i ≤ p := by
          intro hle
          rcases Nat.lt_or_eq_of_le hle with h' | h'
          · have := sorted_get hs h' gc hpm; simp only [] at h; omega
          · subst h'; rw [gc] at hpm; have := Option.some.inj hpm; simp only [] at h; omega
        omega
      · have : ¬ p ≤ nbB names.length i := by
          intro hle
          rcases Nat.lt_or_eq_of_le hle with h' | h'
          · have := sorted_get hs h' hpm gb; simp only [] at h; omega
          · subst h'; rw [gb] at hpm; have := Option.some.inj hpm; simp only [] at h; omega
        omega
    · rw [← e]; exact hcnt
  · have lt1 := sorted_get hs (show nbC names.length i < nbB names.length i by omega) gc gb
    have e := key _ _ (.inr ⟨rfl, rfl⟩) lt1
    rw [e]
    refine ⟨⟨List.mem_of_getElem? gc, List.mem_of_getElem? gb, lt1, ⟨_, List.mem_of_getElem? g1, sorted_get hs (by omega) gc g1, sorted_get hs (by omega) g1 gb⟩, ⟨_, List.mem_of_getElem? gl, .inr (sorted_get hs (by omega) gb gl)⟩⟩, mc, mb, .inr ?_, ?_⟩
    · intro m hm
      obtain ⟨p, hp, hpm⟩ := hE hm
      have := getElem?_lt hpm
      rintro (h | h)
      · have : ¬ nbC names.length i ≤ p := by
          intro hle
          rcases Nat.lt_or_eq_of_le hle with h' | h'
          · have := sorted_get hs h' gc hpm; simp only [] at h; omega
          · subst h'; rw [gc] at hpm; have := Option.some.inj hpm; simp only [] at h; omega
        omega
      · have : ¬ p ≤ nbB names.length i := by
          intro hle
          rcases Nat.lt_or_eq_of_le hle with h' | h'
          · have := sorted_get hs h' hpm gb; simp only [] at h; omega
          · subst h'; rw [gb] at hpm; have := Option.some.inj hpm; simp only [] at h; omega
        omega
    · rw [← e]; exact hcnt
  · have lt1 := sorted_get hs (show nbB names.length i < nbC names.length i by omega) gb gc
    have e := key _ _ (.inl ⟨rfl, rfl⟩) lt1
    rw [e]
    refine ⟨⟨List.mem_of_getElem? gb, List.mem_of_getElem? gc, lt1, ⟨_, List.mem_of_getElem? gi, sorted_get hs (by omega) gb gi, sorted_get hs (by omega) gi gc⟩, ?_⟩, mb, mc, .inl ?_, ?_⟩
    · by_cases hz : 0 < nbB names.length i
      · exact ⟨_, List.mem_of_getElem? g0, .inl (sorted_get hs hz g0 gb)⟩
      · exact ⟨_, List.mem_of_getElem? gl, .inr (sorted_get hs (by omega) gc gl)⟩
    · intro m hm
      obtain ⟨p, hp, hpm⟩ := hE hm
      have := getElem?_lt hpm
      rintro ⟨ha, hb'⟩
      have c1 : nbB names.length i < p := by
        rcases Nat.lt_trichotomy (nbB names.length i) p with h' | h' | h'
        · exact h'
        · subst h'; rw [gb] at hpm; have := Option.some.inj hpm; simp only [] at ha; omega
        · have := sorted_get hs h' hpm gb; simp only [] at ha; omega
      have c2 : p < nbC names.length i := by
        rcases Nat.lt_trichotomy p (nbC names.length i) with h' | h' | h'
        · exact h'
        · subst h'; rw [gc] at hpm; have := Option.some.inj hpm; simp only [] at hb'; omega
        · have := sorted_get hs h' gc hpm; simp only [] at hb'; omega
      omega
    · rw [← e]; exact hcnt
theorem Ends.mono {names names' : List Int} (h : ∀ m ∈ names', m ∈ names) {d : Dg} (hd : Ends names' d) : Ends names d := by
  obtain ⟨a, b, c, ⟨m, hm, hm'⟩, ⟨q, hq, hq'⟩⟩ := hd
  exact ⟨h _ a, h _ b, c, ⟨m, h _ hm, hm'⟩, ⟨q, h _ hq, hq'⟩⟩
/-- What the cut off diagonals are. -/
theorem tri_good : ∀ (k : Nat) (l names : List Int) (ds : List Dg), names.Pairwise (· < ·) → l.length = k + 3 → names.length = k + 3 → tri k l names = some ds → ds.length = k ∧ Good names ds
  | 0, l, names, ds, hs, hl, hn, h => by
    unfold tri at h
    split at h
    · cases h; exact ⟨rfl, by simp, by simp⟩
    · cases h
  | k + 1, l, names, ds, hs, hl, hn, h => by
    unfold tri at h
    cases he : ear l with
    | none => rw [he] at h; cases h
    | some i =>
      rw [he] at h
      simp only [] at h
      obtain ⟨hi, _⟩ := ear_lt he
      obtain ⟨ds', h1, h2⟩ := Option.map_eq_some_iff.1 h
      subst h2
      have hE : (names.eraseIdx i).length = k + 3 := by rw [List.length_eraseIdx, if_pos (by omega)]; omega
      have hsub : ∀ m ∈ names.eraseIdx i, m ∈ names := fun m hm => List.mem_of_mem_eraseIdx hm
      obtain ⟨g1, g2, g3⟩ := tri_good k (cutL l i) (names.eraseIdx i) ds' (hs.sublist (List.eraseIdx_sublist ..)) (by rw [cutL_length hi]; omega) hE h1
      obtain ⟨f1, f2, f3, f4, f5⟩ := cutD_facts hs (by omega) (show i < names.length by omega)
      refine ⟨by simp [g1], fun d hd => ?_, ?_⟩
      · rcases List.mem_cons.1 hd with rfl | hd
        · exact f1
        · exact (g2 d hd).mono hsub
      · refine List.pairwise_cons.2 ⟨fun e he' => ?_, g3⟩
        obtain ⟨q1, q2, q3, ⟨m, q4, q5⟩, ⟨m', q6, q7⟩⟩ := g2 e he'
        generalize cutD names i = d at *
        constructor
        · rintro rfl
          rcases f4 with f4 | f4
          · exact f4 m q4 q5
          · exact f4 m' q6 q7
        · unfold crossD
          rcases f4 with f4 | f4
          · have a1 := f4 _ q1
            have a2 := f4 _ q2
            simp
            constructor <;> intro h1 h2 <;> omega
          · have a1 := f4 _ q1
            have a2 := f4 _ q2
            simp
            constructor <;> intro h1 h2 <;> omega
theorem cnt_nn (ds : List Dg) (m : Int) : 0 ≤ cnt ds m ∧ cnt ds m ≤ 2 * ds.length := by
  induction ds with
  | nil => simp [cnt]
  | cons d t ih =>
    have : cnt (d :: t) m = cntD d m + cnt t m := rfl
    rw [this, List.length_cons]
    unfold cntD
    split <;> split <;> omega
theorem cnt_zero (ds : List Dg) (m : Int) (h : ∀ d ∈ ds, d.1 ≠ m ∧ d.2 ≠ m) : cnt ds m = 0 := by
  induction ds with
  | nil => simp [cnt]
  | cons d t ih =>
    have e : cnt (d :: t) m = cntD d m + cnt t m := rfl
    have := h d (by simp)
    rw [e, ih (fun d hd => h d (by simp [hd]))]
    unfold cntD
    rw [if_neg this.1, if_neg this.2]
    rfl
def Cnts (l names : List Int) (ds : List Dg) : Prop := ∀ (p : Nat) (v m : Int), l[p]? = some v → names[p]? = some m → v = 1 + cnt ds m
theorem good_ne {names : List Int} {ds : List Dg} (g : Good names ds) {m : Int} (h : m ∉ names) : cnt ds m = 0 :=
  cnt_zero ds m fun d hd => ⟨fun e => h (e ▸ (g.1 d hd).1), fun e => h (e ▸ (g.1 d hd).2.1)⟩
theorem cut_cnts {k : Nat} {l names : List Int} {i : Nat} {ds : List Dg} (hs : names.Pairwise (· < ·)) (hl : l.length = k + 4) (hn : names.length = k + 4) (hi : ear l = some i) (g : Good (names.eraseIdx i) ds)
    (hw : ∀ p, p < l.length → w64 (l.getD p 0 - 1) = l.getD p 0 - 1) : Cnts (cutL l i) (names.eraseIdx i) ds ↔ Cnts l names (cutD names i :: ds) := by
  obtain ⟨hil, hi1⟩ := ear_lt hi
  obtain ⟨h1, h2, h3, h4, h5, h6⟩ := nb_facts (by omega : 3 ≤ l.length) hil
  obtain ⟨f1, f2, f3, f4, f5⟩ := cutD_facts hs (by omega) (show i < names.length by omega)
  have hcv : ∀ p m, p < l.length → names[p]? = some m → cutV l i p = l.getD p 0 - cntD (cutD names i) m := by
    intro p m hp hm
    rw [f5 p m hm, hn, ← hl]
    unfold cutV
    rw [hw p hp]
    split <;> simp
  constructor
  · intro h p v m hv hm
    have e : cnt (cutD names i :: ds) m = cntD (cutD names i) m + cnt ds m := rfl
    rw [e]
    have hp := getElem?_lt hv
    by_cases hpi : p = i
    · subst hpi
      rw [hi1] at hv
      cases hv
      have := f5 p m hm
      rw [hn, ← hl, if_neg (by omega)] at this
      rw [this, good_ne g]
      · rfl
      · intro hmem
        obtain ⟨q, hq, hqm⟩ := erase_mem hmem
        exact hq (sorted_inj hs hqm hm)
    · have := h (if p < i then p else p - 1) (cutV l i p) m (cutL_get (by omega) hil hp hpi) (by rw [erase_get hpi]; exact hm)
      rw [hcv p m hp hm, getD_some hv] at this
      omega
  · intro h p' v m hv hm
    have hp' := getElem?_lt hv
    rw [cutL_length hil] at hp'
    obtain ⟨p, hpi, hpp, hp⟩ : ∃ p, p ≠ i ∧ (if p < i then p else p - 1) = p' ∧ p < l.length := by
      by_cases hh : p' < i
      · exact ⟨p', by omega, by rw [if_pos hh], by omega⟩
      · exact ⟨p' + 1, by omega, by rw [if_neg (by omega)]; omega, by omega⟩
    rw [← hpp] at hv hm
    rw [cutL_get (by omega) hil hp hpi] at hv
    rw [erase_get hpi] at hm
    cases hv
    rw [hcv p m hp hm]
    have := h p (l.getD p 0) m (by rw [List.getElem?_eq_getElem hp, List.getD_eq_getElem?_getD, List.getElem?_eq_getElem hp]; rfl) hm
    have e : cnt (cutD names i :: ds) m = cntD (cutD names i) m + cnt ds m := rfl
    omega
/-- Cut with a look: the same, and the counts are right. -/
theorem triS_tri : ∀ (k : Nat) (l names : List Int) (ds : List Dg), names.Pairwise (· < ·) → l.length = k + 3 → names.length = k + 3 → (∀ v ∈ l, 1 ≤ v ∧ v ≤ 4611686018427387904) → triS k l names = some ds → tri k l names = some ds ∧ Cnts l names ds
  | 0, l, names, ds, hs, hl, hn, hb, h => by
    unfold triS at h
    refine ⟨by unfold tri; exact h, ?_⟩
    split at h
    · rename_i e
      cases h
      intro p v m hv hm
      have := List.mem_of_getElem? hv
      rw [e] at this
      simp at this
      rw [this]; rfl
    · cases h
  | k + 1, l, names, ds, hs, hl, hn, hb, h => by
    unfold triS at h
    cases he : ear l with
    | none => rw [he] at h; cases h
    | some i =>
      rw [he] at h
      simp only [] at h
      split at h
      · rename_i hok
        obtain ⟨hi, _⟩ := ear_lt he
        obtain ⟨n1, n2, n3, n4, n5, n6⟩ := nb_facts (by omega : 3 ≤ l.length) hi
        obtain ⟨ds', h1, h2⟩ := Option.map_eq_some_iff.1 h
        subst h2
        have hE : (names.eraseIdx i).length = k + 3 := by rw [List.length_eraseIdx, if_pos (by omega)]; omega
        have hgd : ∀ p, p < l.length → 1 ≤ l.getD p 0 ∧ l.getD p 0 ≤ 4611686018427387904 := by
          intro p hp
          rw [List.getD_eq_getElem?_getD, List.getElem?_eq_getElem hp]
          exact hb _ (List.getElem_mem hp)
        have hw : ∀ p, p < l.length → w64 (l.getD p 0 - 1) = l.getD p 0 - 1 := by
          intro p hp
          have := hgd p hp
          exact w64_id (by omega) (by omega)
        have hb' : ∀ v ∈ cutL l i, 1 ≤ v ∧ v ≤ 4611686018427387904 := by
          intro v hv
          obtain ⟨p', hp'⟩ := List.mem_iff_getElem?.1 hv
          have hlt := getElem?_lt hp'
          rw [cutL_length hi] at hlt
          obtain ⟨p, hpi, hpp, hp⟩ : ∃ p, p ≠ i ∧ (if p < i then p else p - 1) = p' ∧ p < l.length := by
            by_cases hh : p' < i
            · exact ⟨p', by omega, by rw [if_pos hh], by omega⟩
            · exact ⟨p' + 1, by omega, by rw [if_neg (by omega)]; omega, by omega⟩
          rw [← hpp, cutL_get (by omega) hi hp hpi] at hp'
          cases hp'
          unfold okC at hok
          have hok := of_decide_eq_true hok
          have := hgd p hp
          unfold cutV
          split
          · rename_i hh
            rcases hh with rfl | rfl
            · refine ⟨hok.1, ?_⟩
              rw [hw _ hp]; omega
            · refine ⟨hok.2, ?_⟩
              rw [hw _ hp]; omega
          · exact this
        obtain ⟨g1, g2⟩ := triS_tri k (cutL l i) (names.eraseIdx i) ds' (hs.sublist (List.eraseIdx_sublist ..)) (by rw [cutL_length hi]; omega) hE hb' h1
        have g := (tri_good k _ _ _ (hs.sublist (List.eraseIdx_sublist ..)) (by rw [cutL_length hi]; omega) hE g1).2
        refine ⟨?_, (cut_cnts hs hl hn he g hw).1 g2⟩
        unfold tri
        rw [he]
        simp only []
        rw [g1]
        rfl
      · cases h
/-- Cut without a look: if the counts are right, no look fails. -/
theorem tri_triS : ∀ (k : Nat) (l names : List Int) (ds : List Dg), names.Pairwise (· < ·) → l.length = k + 3 → names.length = k + 3 → k < 1000000 → tri k l names = some ds → Cnts l names ds → triS k l names = some ds
  | 0, l, names, ds, hs, hl, hn, hk, h, hc => by
    unfold tri at h
    unfold triS
    exact h
  | k + 1, l, names, ds, hs, hl, hn, hk, h, hc => by
    have hlen := (tri_good _ _ _ _ hs hl hn h).1
    unfold tri at h
    unfold triS
    cases he : ear l with
    | none => rw [he] at h; cases h
    | some i =>
      rw [he] at h
      simp only [] at h ⊢
      obtain ⟨hi, _⟩ := ear_lt he
      obtain ⟨n1, n2, n3, n4, n5, n6⟩ := nb_facts (by omega : 3 ≤ l.length) hi
      obtain ⟨ds', h1, h2⟩ := Option.map_eq_some_iff.1 h
      subst h2
      have hE : (names.eraseIdx i).length = k + 3 := by rw [List.length_eraseIdx, if_pos (by omega)]; omega
      have g := (tri_good k _ _ _ (hs.sublist (List.eraseIdx_sublist ..)) (by rw [cutL_length hi]; omega) hE h1).2
      obtain ⟨f1, f2, f3, f4, f5⟩ := cutD_facts hs (by omega) (show i < names.length by omega)
      have hgd : ∀ p (hp : p < l.length), l.getD p 0 = 1 + (cntD (cutD names i) (names[p]'(by omega)) + cnt ds' (names[p]'(by omega))) := by
        intro p hp
        rw [List.getD_eq_getElem?_getD, List.getElem?_eq_getElem hp]
        exact hc p _ _ (List.getElem?_eq_getElem hp) (List.getElem?_eq_getElem (by omega))
      have hw : ∀ p, p < l.length → w64 (l.getD p 0 - 1) = l.getD p 0 - 1 := by
        intro p hp
        have e := hgd p hp
        have c1 := cnt_nn ds' (names[p]'(by omega))
        have c2 : cntD (cutD names i) (names[p]'(by omega)) ≤ 2 ∧ 0 ≤ cntD (cutD names i) (names[p]'(by omega)) := by unfold cntD; split <;> split <;> omega
        rw [List.length_cons] at hlen
        rw [w64_id (by omega) (by omega)]
      have hok : okC l i = true := by
        unfold okC
        refine decide_eq_true ⟨?_, ?_⟩
        · rw [hw _ n1, hgd _ n1, f5 _ _ (List.getElem?_eq_getElem (by omega)), if_pos (.inl (by rw [hn, hl]))]
          have := cnt_nn ds' (names[nbB l.length i]'(by omega))
          omega
        · rw [hw _ n2, hgd _ n2, f5 _ _ (List.getElem?_eq_getElem (by omega)), if_pos (.inr (by rw [hn, hl]))]
          have := cnt_nn ds' (names[nbC l.length i]'(by omega))
          omega
      rw [if_pos hok, tri_triS k _ _ _ (hs.sublist (List.eraseIdx_sublist ..)) (by rw [cutL_length hi]; omega) hE (by omega) h1 ((cut_cnts hs hl hn he g hw).2 hc)]
      rfl



def ltD (d e : Dg) : Bool := decide (d.1 < e.1 ∨ d.1 = e.1 ∧ d.2 < e.2)
def leD (d e : Dg) : Bool := !ltD e d
def cmpD (d e : Dg) : Int := if ltD d e then -1 else if ltD e d then 1 else 0
theorem leD_iff {d e : Dg} : leD d e = true ↔ d.1 < e.1 ∨ d.1 = e.1 ∧ d.2 ≤ e.2 := by
  unfold leD ltD; simp; omega
theorem ltD_iff {d e : Dg} : ltD d e = true ↔ d.1 < e.1 ∨ d.1 = e.1 ∧ d.2 < e.2 := by
  unfold ltD; simp
theorem leD_trans {a b c : Dg} (h1 : leD a b = true) (h2 : leD b c = true) : leD a c = true := by
  rw [leD_iff] at *; omega
theorem leD_anti {a b : Dg} (h1 : leD a b = true) (h2 : leD b a = true) : a = b := by
  rw [leD_iff] at *
  exact Prod.ext (by omega) (by omega)
theorem leD_of_lt {a b : Dg} (h : ltD a b = true) : leD a b = true := by
  rw [leD_iff]; rw [ltD_iff] at h; omega
theorem leD_of_not {a b : Dg} (h : ltD a b = false) : leD b a = true := by unfold leD; rw [h]; rfl
theorem ltD_of {a b : Dg} (h : leD a b = true) (hne : a ≠ b) : ltD a b = true := by
  rw [leD_iff] at h; rw [ltD_iff]
  rcases h with h | ⟨h1, h2⟩
  · exact .inl h
  · refine .inr ⟨h1, ?_⟩
    rcases Int.lt_or_lt_of_ne (fun e => hne (Prod.ext h1 e)) with h | h <;> omega
def SortedD (l : List Dg) : Prop := l.Pairwise fun a b => leD a b = true
theorem sorted_unique {l m : List Dg} (h1 : SortedD l) (h2 : SortedD m) (hp : l.Perm m) : l = m :=
  List.Perm.eq_of_pairwise (fun a b _ _ h1 h2 => leD_anti h1 h2) h1 h2 hp
/-- Put in its place. -/
def insD (d : Dg) (l : List Dg) : List Dg := l.takeWhile (ltD · d) ++ d :: l.dropWhile (ltD · d)
theorem insD_perm (d : Dg) (l : List Dg) : (insD d l).Perm (d :: l) := by
  unfold insD
  have h := List.perm_middle (a := d) (l₁ := l.takeWhile (ltD · d)) (l₂ := l.dropWhile (ltD · d))
  rwa [List.takeWhile_append_dropWhile] at h
theorem insD_sorted (d : Dg) : ∀ {l : List Dg}, SortedD l → SortedD (insD d l)
  | [], _ => by simp [insD, SortedD]
  | x :: t, h => by
    obtain ⟨h1, h2⟩ := List.pairwise_cons.1 h
    unfold insD
    cases hx : ltD x d with
    | true =>
      rw [List.takeWhile_cons, List.dropWhile_cons]
      simp only [hx, if_true, List.cons_append]
      refine List.pairwise_cons.2 ⟨fun y hy => ?_, insD_sorted d h2⟩
      have : y ∈ d :: t := (insD_perm d t).mem_iff.1 hy
      rcases List.mem_cons.1 this with rfl | hy
      · exact leD_of_lt hx
      · exact h1 y hy
    | false =>
      rw [List.takeWhile_cons, List.dropWhile_cons]
      simp only [hx, Bool.false_eq_true, if_false, List.nil_append]
      refine List.pairwise_cons.2 ⟨fun y hy => ?_, h⟩
      rcases List.mem_cons.1 hy with rfl | hy
      · exact leD_of_not hx
      · exact leD_trans (leD_of_not hx) (h1 y hy)
def sortD (l : List Dg) : List Dg := l.foldl (fun out d => insD d out) []
theorem sortD_go : ∀ (l out : List Dg), SortedD out → SortedD (l.foldl (fun out d => insD d out) out) ∧ (l.foldl (fun out d => insD d out) out).Perm (out ++ l)
  | [], out, h => ⟨h, by simp⟩
  | d :: l, out, h => by
    obtain ⟨h1, h2⟩ := sortD_go l (insD d out) (insD_sorted d h)
    refine ⟨h1, h2.trans ?_⟩
    exact ((insD_perm d out).append_right l).trans (by simpa using (List.perm_middle (a := d) (l₁ := out) (l₂ := l)).symm)
theorem sortD_sorted (l : List Dg) : SortedD (sortD l) := (sortD_go l [] (by simp [SortedD])).1
theorem sortD_perm (l : List Dg) : (sortD l).Perm l := by have h := (sortD_go l [] (by simp [SortedD])).2; rwa [List.nil_append] at h
theorem sortD_length (l : List Dg) : (sortD l).length = l.length := (sortD_perm l).length_eq
/-! insertion by swaps -/
def gD (l : List Dg) (p : Nat) : Dg := l.getD p (0, 0)
def swapD (l : List Dg) (j : Nat) : List Dg := (l.set (j + 1) (gD l j)).set j (gD l (j + 1))
def sinkD : Nat → List Dg → List Dg
  | 0, l => l
  | j + 1, l => if ltD (gD l (j + 1)) (gD l j) then sinkD j (swapD l j) else l
theorem gD_eq {l : List Dg} {p : Nat} (h : p < l.length) : gD l p = l[p] := by unfold gD; rw [List.getD_eq_getElem?_getD, List.getElem?_eq_getElem h]; rfl
theorem gD_some {l : List Dg} {p : Nat} (h : p < l.length) : l[p]? = some (gD l p) := by rw [gD_eq h, List.getElem?_eq_getElem h]
theorem swapD_length (l : List Dg) (j : Nat) : (swapD l j).length = l.length := by simp [swapD]
theorem sinkD_length : ∀ (j : Nat) (l : List Dg), (sinkD j l).length = l.length
  | 0, l => rfl
  | j + 1, l => by
    unfold sinkD
    split
    · rw [sinkD_length, swapD_length]
    · rfl
theorem swapD_perm {l : List Dg} {j : Nat} (h : j + 1 < l.length) : (swapD l j).Perm l := by
  unfold swapD
  rw [gD_eq h, gD_eq (by omega)]
  exact List.set_set_perm (by omega) (by omega)
theorem sinkD_perm : ∀ {j : Nat} {l : List Dg}, j < l.length → (sinkD j l).Perm l
  | 0, l, _ => .refl _
  | j + 1, l, h => by
    unfold sinkD
    split
    · exact (sinkD_perm (by rw [swapD_length]; omega)).trans (swapD_perm h)
    · exact .refl _
theorem swapD_get {l : List Dg} {j p : Nat} (h : j + 1 < l.length) : gD (swapD l j) p = if p = j then gD l (j + 1) else if p = j + 1 then gD l j else gD l p := by
  unfold swapD
  conv => lhs; unfold gD
  simp only [List.getD_eq_getElem?_getD]
  by_cases e1 : p = j
  · subst e1
    rw [List.getElem?_set_self (by simp; omega), if_pos rfl]; rfl
  · rw [List.getElem?_set_ne (fun e => e1 e.symm), if_neg e1]
    by_cases e2 : p = j + 1
    · subst e2
      rw [List.getElem?_set_self h, if_pos rfl]; rfl
    · rw [List.getElem?_set_ne (fun e => e2 e.symm), if_neg e2]
      unfold gD; rw [List.getD_eq_getElem?_getD]
def SUp (l : List Dg) (i : Nat) : Prop := ∀ p q, p < q → q ≤ i → leD (gD l p) (gD l q) = true
theorem sinkD_up : ∀ (j : Nat) (l : List Dg) (i : Nat), j < l.length → j ≤ i → (∀ p q, p < q → q ≤ i → p ≠ j → q ≠ j → leD (gD l p) (gD l q) = true) → (∀ q, j < q → q ≤ i → leD (gD l j) (gD l q) = true) → SUp (sinkD j l) i
  | 0, l, i, hl, hi, h1, h2 => by
    intro p q hpq hq
    by_cases e : p = 0
    · subst e; exact h2 q hpq hq
    · exact h1 p q hpq hq e (by omega)
  | j + 1, l, i, hl, hi, h1, h2 => by
    unfold sinkD
    cases hlt : ltD (gD l (j + 1)) (gD l j) with
    | true =>
      simp only [if_true]
      refine sinkD_up j (swapD l j) i (by rw [swapD_length]; omega) (by omega) (fun p q hpq hq hp hq' => ?_) (fun q hq hqi => ?_)
      · rw [swapD_get hl, swapD_get hl, if_neg hp, if_neg hq']
        by_cases e1 : p = j + 1
        · rw [if_pos e1, if_neg (by omega)]
          exact h1 j q (by omega) hq (by omega) (by omega)
        · rw [if_neg e1]
          by_cases e2 : q = j + 1
          · rw [if_pos e2]
            exact h1 p j (by omega) (by omega) e1 (by omega)
          · rw [if_neg e2]
            exact h1 p q hpq hq e1 e2
      · rw [swapD_get hl, swapD_get hl, if_pos rfl, if_neg (by omega)]
        by_cases e2 : q = j + 1
        · rw [if_pos e2]; exact leD_of_lt hlt
        · rw [if_neg e2]; exact h2 q (by omega) hqi
    | false =>
      simp only [Bool.false_eq_true, if_false]
      intro p q hpq hq
      by_cases e1 : p = j + 1
      · subst e1; exact h2 q hpq hq
      · by_cases e2 : q = j + 1
        · subst e2
          have := leD_of_not hlt
          by_cases e3 : p = j
          · subst e3; exact this
          · exact leD_trans (h1 p j (by omega) (by omega) e1 (by omega)) this
        · exact h1 p q hpq hq e1 e2
theorem sinkD_keep : ∀ (j : Nat) (l : List Dg) (p : Nat), j < l.length → j < p → gD (sinkD j l) p = gD l p
  | 0, l, p, _, _ => rfl
  | j + 1, l, p, hl, h => by
    unfold sinkD
    split
    · rw [sinkD_keep j _ p (by rw [swapD_length]; omega) (by omega), swapD_get hl, if_neg (by omega), if_neg (by omega)]
    · rfl
/-- From place i on. -/
def isortD : Nat → Nat → List Dg → List Dg
  | 0, _, l => l
  | n + 1, i, l => isortD n (i + 1) (sinkD i l)
theorem isortD_spec : ∀ (n i : Nat) (l : List Dg), 0 < i → i + n = l.length → SUp l (i - 1) → SUp (isortD n i l) (l.length - 1) ∧ (isortD n i l).Perm l
  | 0, i, l, hi, hl, h => by
    refine ⟨?_, .refl _⟩
    rw [← hl]
    exact h
  | n + 1, i, l, hi, hl, h => by
    have hs := sinkD_up i l i (by omega) (Nat.le_refl _) (fun p q hpq hq hp hq' => h p q hpq (by omega)) (fun q h1 h2 => by omega)
    obtain ⟨h1, h2⟩ := isortD_spec n (i + 1) (sinkD i l) (by omega) (by rw [sinkD_length]; omega) (by simpa using hs)
    rw [sinkD_length] at h1
    exact ⟨h1, h2.trans (sinkD_perm (by omega))⟩
theorem isortD_eq (l : List Dg) : isortD (l.length - 1) 1 l = sortD l := by
  by_cases h0 : l.length = 0
  · have : l = [] := List.eq_nil_of_length_eq_zero h0
    subst this; rfl
  obtain ⟨h1, h2⟩ := isortD_spec (l.length - 1) 1 l (by omega) (by omega) (fun p q h1 h2 => by omega)
  refine sorted_unique ?_ (sortD_sorted l) (h2.trans (sortD_perm l).symm)
  unfold SortedD
  rw [List.pairwise_iff_getElem]
  intro p q hp hq hpq
  have hlen := h2.length_eq
  have := h1 p q hpq (by omega)
  rwa [gD_eq hp, gD_eq hq] at this
theorem take_while_idx (d : Dg) : ∀ (l : List Dg), ∃ k, k ≤ l.length ∧ l.takeWhile (ltD · d) = l.take k ∧ l.dropWhile (ltD · d) = l.drop k ∧ (∀ p, p < k → ltD (gD l p) d = true) ∧ (k < l.length → ltD (gD l k) d = false)
  | [] => ⟨0, by simp, by simp, by simp, by simp, by simp⟩
  | x :: t => by
    cases hx : ltD x d with
    | false => exact ⟨0, by simp, by simp [hx], by simp [hx], by simp, by simp [gD, hx]⟩
    | true =>
      obtain ⟨k, h1, h2, h3, h4, h5⟩ := take_while_idx d t
      refine ⟨k + 1, by simpa using h1, by simp [hx, h2], by simp [hx, h3], fun p hp => ?_, fun hk => ?_⟩
      · cases p with
        | zero => simpa [gD] using hx
        | succ p => simpa [gD] using h4 p (by omega)
      · simpa [gD] using h5 (by simpa using hk)
def inDg (n : Int) (d : Dg) : Bool := inB 0 (n - 1) d.1 && inB 0 (n - 1) d.2 && decide (d.2 - d.1 > 1) && !(d.1 == 0 && d.2 == n - 1)
/-- What is wrong at a place of a list of diagonals. -/
def badT (n : Int) (ds : List Dg) (k : Nat) : Bool := !inDg n (gD ds k) || (decide (0 < k) && !ltD (gD ds (k - 1)) (gD ds k)) || (ds.take k).any (crossD (gD ds k))
def isTri (n : Int) (ds : List Dg) : Bool := inB 3 12 n && decide ((ds.length : Int) = n - 3) && !(List.range ds.length).any (badT n ds)
theorem isTri_iff (n : Int) (ds : List Dg) : isTri n ds = true ↔ (3 ≤ n ∧ n ≤ 12) ∧ (ds.length : Int) = n - 3 ∧ (∀ d ∈ ds, inDg n d = true) ∧ ds.Pairwise (fun d e => ltD d e = true ∧ crossD e d = false) := by
  unfold isTri
  simp only [Bool.and_eq_true, inB_iff, decide_eq_true_eq, Bool.not_eq_true', and_assoc]
  refine and_congr_right fun h1 => and_congr_right fun h2 => and_congr_right fun h3 => ?_
  rw [List.any_eq_false]
  simp only [List.mem_range, badT, Bool.or_eq_true, Bool.not_eq_true', Bool.and_eq_true, decide_eq_true_eq, not_or, not_and, Bool.not_eq_false, Bool.not_eq_true]
  have ltT : ∀ {a b c : Dg}, ltD a b = true → ltD b c = true → ltD a c = true := by
    intro a b c h1 h2; rw [ltD_iff] at *; omega
  constructor
  · intro h
    refine ⟨fun d hd => ?_, ?_⟩
    · obtain ⟨k, hk, e⟩ := List.getElem_of_mem hd
      have := (h k hk).1.1
      rwa [gD_eq hk, e] at this
    · have up : ∀ m p, p + m + 1 < ds.length → ltD (gD ds p) (gD ds (p + m + 1)) = true := by
        intro m
        induction m with
        | zero => intro p hp; have := (h (p + 1) hp).1.2 (by omega); simpa using this
        | succ m ih =>
          intro p hp
          have := (h (p + m + 1 + 1) (by omega)).1.2 (by omega)
          rw [show p + m + 1 + 1 - 1 = p + m + 1 by omega] at this
          have e2 := ltT (ih p (by omega)) this
          rwa [show p + (m + 1) + 1 = p + m + 1 + 1 by omega]
      rw [List.pairwise_iff_getElem]
      intro p q hp hq hpq
      have h2' := up (q - p - 1) p (by omega)
      rw [show p + (q - p - 1) + 1 = q by omega, gD_eq hp, gD_eq hq] at h2'
      refine ⟨h2', ?_⟩
      have := (h q hq).2
      rw [List.any_eq_false] at this
      have := this ds[p] (List.mem_take_iff_getElem.2 ⟨p, by omega, rfl⟩)
      rw [gD_eq hq] at this
      simpa using this
  · rintro ⟨g1, g2⟩ k hk
    rw [List.pairwise_iff_getElem] at g2
    refine ⟨⟨by rw [gD_eq hk]; exact g1 _ (List.getElem_mem hk), fun hk0 => ?_⟩, ?_⟩
    · rw [gD_eq hk, gD_eq (show k - 1 < ds.length by omega)]
      exact (g2 (k - 1) k (by omega) hk (by omega)).1
    · rw [List.any_eq_false]
      intro e he
      obtain ⟨p, hp, e'⟩ := List.mem_take_iff_getElem.1 he
      have := (g2 p k (by omega) hk (by omega)).2
      rw [e', ← gD_eq hk] at this
      simpa using this
theorem crossD_comm (d e : Dg) : crossD d e = crossD e d := by
  unfold crossD
  exact Bool.or_comm _ _
/-- A good list of diagonals, sorted, is a triangulation. -/
theorem good_isTri {n : Nat} {names : List Int} {ds : List Dg} (hn : 3 ≤ n ∧ n ≤ 12) (hnm : ∀ m ∈ names, 0 ≤ m ∧ m < n) (g : Good names ds) (hl : ds.length = n - 3) : isTri n (sortD ds) = true := by
  rw [isTri_iff]
  refine ⟨by omega, by rw [sortD_length]; omega, fun d hd => ?_, ?_⟩
  · obtain ⟨q1, q2, q3, ⟨m, q4, q5⟩, ⟨m', q6, q7⟩⟩ := g.1 d ((sortD_perm ds).mem_iff.1 hd)
    have a1 := hnm _ q1
    have a2 := hnm _ q2
    have a3 := hnm _ q6
    have i1 : inB 0 ((n : Int) - 1) d.1 = true := inB_iff.2 (by omega)
    have i2 : inB 0 ((n : Int) - 1) d.2 = true := inB_iff.2 (by omega)
    unfold inDg
    rw [i1, i2]
    simp
    omega
  · have h1 : (sortD ds).Pairwise Apart := (List.Perm.pairwise_iff (fun {x y} h => ⟨h.1.symm, by rw [crossD_comm]; exact h.2⟩) (sortD_perm ds)).2 g.2
    have h2 := sortD_sorted ds
    exact (List.Pairwise.and h2 h1).imp fun {a b} h => ⟨ltD_of h.1 h.2.1, by rw [crossD_comm]; exact h.2.2⟩
/-- Counted at two corners. -/
def bumpD (out : List Int) (d : Dg) : List Int := ((out.set d.1.toNat (out.getD d.1.toNat 0 + 1))).set d.2.toNat (out.getD d.2.toNat 0 + 1)
theorem bumpD_get {out : List Int} {d : Dg} {p : Nat} (h1 : 0 ≤ d.1) (h2 : d.1 < d.2) (h3 : d.2 < out.length) (hp : p < out.length) : (bumpD out d).getD p 0 = out.getD p 0 + cntD d p := by
  unfold bumpD cntD
  simp only [List.getD_eq_getElem?_getD]
  by_cases e2 : d.2.toNat = p
  · subst e2
    rw [List.getElem?_set_self (by simp; omega), if_neg (by omega), if_pos (by omega)]
    simp
  · rw [List.getElem?_set_ne e2]
    by_cases e1 : d.1.toNat = p
    · subst e1
      rw [List.getElem?_set_self (by omega), if_pos (by omega), if_neg (by omega)]
      simp
    · rw [List.getElem?_set_ne e1, if_neg (by omega), if_neg (by omega)]
      simp
theorem bumpD_length (out : List Int) (d : Dg) : (bumpD out d).length = out.length := by simp [bumpD]
/-- The numbers of a triangulation's triangles at the corners. -/
def quid (n : Nat) (ds : List Dg) : List Int := (List.range n).map fun (p : Nat) => 1 + cnt ds (p : Int)
theorem cnt_cons (d : Dg) (t : List Dg) (m : Int) : cnt (d :: t) m = cntD d m + cnt t m := rfl
theorem cnt_perm {ds es : List Dg} (h : ds.Perm es) (m : Int) : cnt ds m = cnt es m := by
  induction h with
  | nil => rfl
  | cons x _ ih => rw [cnt_cons, cnt_cons, ih]
  | swap x y l => simp only [cnt_cons]; omega
  | trans _ _ h1 h2 => rw [h1, h2]
theorem bump_fold (n : Nat) : ∀ (ds : List Dg) (out : List Int), out.length = n → (∀ d ∈ ds, 0 ≤ d.1 ∧ d.1 < d.2 ∧ d.2 < (n : Int)) → (ds.foldl bumpD out).length = n ∧ ∀ p, p < n → (ds.foldl bumpD out).getD p 0 = out.getD p 0 + cnt ds p
  | [], out, hl, h => ⟨hl, fun p hp => by simp [cnt]⟩
  | d :: t, out, hl, h => by
    have hd := h d (by simp)
    obtain ⟨h1, h2⟩ := bump_fold n t (bumpD out d) (by rw [bumpD_length, hl]) (fun e he => h e (by simp [he]))
    refine ⟨h1, fun p hp => ?_⟩
    rw [List.foldl_cons, h2 p hp, bumpD_get hd.1 hd.2.1 (by omega) (by omega), cnt_cons]
    omega
def nameL (n : Nat) : List Int := (List.range n).map fun (k : Nat) => (k : Int)
theorem nameL_length (n : Nat) : (nameL n).length = n := by simp [nameL]
theorem nameL_succ (n : Nat) : nameL (n + 1) = nameL n ++ [(n : Int)] := by simp [nameL, List.range_succ]
theorem nameL_get {n p : Nat} (h : p < n) : (nameL n)[p]? = some (p : Int) := by simp [nameL, h]
theorem nameL_sorted (n : Nat) : (nameL n).Pairwise (· < ·) := by
  rw [List.pairwise_iff_getElem]
  intro i j hi hj hij
  simp [nameL]
  omega
theorem nameL_mem {n : Nat} {m : Int} (h : m ∈ nameL n) : 0 ≤ m ∧ m < n := by
  obtain ⟨p, hp, e⟩ := List.mem_map.1 h
  have := List.mem_range.1 hp
  subst e
  omega
/-- The list's counts are the diagonals'. -/
theorem cnts_quid {l : List Int} {ds : List Dg} : Cnts l (nameL l.length) ds ↔ quid l.length ds = l := by
  constructor
  · intro h
    refine List.ext_getElem (by simp [quid]) fun p hp hp' => ?_
    have := h p l[p] (p : Int) (List.getElem?_eq_getElem hp') (nameL_get hp')
    rw [this]
    simp [quid]
  · intro h p v m hv hm
    have hp := getElem?_lt hv
    rw [nameL_get hp] at hm
    cases hm
    rw [← h] at hv
    simp only [quid, List.getElem?_map, List.getElem?_range hp, Option.map_some, Option.some.injEq] at hv
    exact hv.symm
/-- The triangulation with a quiddity. -/
def trOf (l : List Int) : Option (List Dg) :=
  if inB 3 12 l.length then
    match tri (l.length - 3) l (nameL l.length) with
    | some ds => if quid l.length ds = l then some (sortD ds) else none
    | none => none
  else none
theorem trOf_spec (l : List Int) (h : l.all (inB 1 12) = true) (hn : inB 3 12 l.length = true) : (triS (l.length - 3) l (nameL l.length)).map sortD = trOf l := by
  rw [inB_iff] at hn
  have hb : ∀ v ∈ l, 1 ≤ v ∧ v ≤ 4611686018427387904 := fun v hv => by
    have := inB_iff.1 (List.all_eq_true.1 h v hv)
    omega
  unfold trOf
  rw [if_pos (inB_iff.2 hn)]
  have hl : l.length = l.length - 3 + 3 := by omega
  cases hS : triS (l.length - 3) l (nameL l.length) with
  | some ds =>
    obtain ⟨g1, g2⟩ := triS_tri _ _ _ _ (nameL_sorted _) hl (by rw [nameL_length]; omega) hb hS
    rw [g1]
    simp only []
    rw [if_pos (cnts_quid.1 g2)]
    rfl
  | none =>
    cases hT : tri (l.length - 3) l (nameL l.length) with
    | none => rfl
    | some ds =>
      simp only []
      split
      · rename_i hq
        have := tri_triS _ _ _ _ (nameL_sorted _) hl (by rw [nameL_length]; omega) (by omega) hT (cnts_quid.2 hq)
        rw [this] at hS
        cases hS
      · rfl
theorem cnt_le : ∀ {ds : List Dg} {m : Int}, (∀ d ∈ ds, d.1 < d.2) → cnt ds m ≤ ds.length
  | [], m, h => by simp [cnt]
  | d :: t, m, h => by
    have := cnt_le (ds := t) (m := m) fun d hd => h d (by simp [hd])
    rw [cnt_cons, List.length_cons]
    have q := h d (by simp)
    have : cntD d m ≤ 1 := by unfold cntD; split <;> split <;> omega
    omega
theorem trOf_bad (l : List Int) (h : l.all (inB 1 12) = false) : trOf l = none := by
  unfold trOf
  split
  · rename_i hn
    rw [inB_iff] at hn
    split
    · rename_i ds hT
      rw [if_neg]
      intro hq
      have hds := (tri_good _ _ _ _ (nameL_sorted _) (by omega) (by rw [nameL_length]; omega) hT)
      rw [List.all_eq_false] at h
      obtain ⟨v, hv, hb⟩ := h
      rw [← hq] at hv
      obtain ⟨p, hp, e⟩ := List.mem_map.1 hv
      have c1 := cnt_nn ds p
      have c2 : cnt ds p ≤ ds.length := cnt_le fun d hd => (hds.2.1 d hd).2.2.1
      apply hb
      rw [inB_iff, ← e]
      omega
    · rfl
  · rfl
def triW : Nat → List Int → List Int → Option (List Int × List Dg)
  | 0, l, _ => some (l, [])
  | k + 1, l, names => match ear l with
    | none => none
    | some i => (triW k (cutL l i) (names.eraseIdx i)).map fun r => (r.1, cutD names i :: r.2)
def triSW : Nat → List Int → List Int → Option (List Int × List Dg)
  | 0, l, _ => some (l, [])
  | k + 1, l, names => match ear l with
    | none => none
    | some i => if okC l i then (triSW k (cutL l i) (names.eraseIdx i)).map fun r => (r.1, cutD names i :: r.2) else none
theorem tri_W : ∀ (k : Nat) (l names : List Int), tri k l names = (triW k l names).bind fun r => if r.1 = [1, 1, 1] then some r.2 else none
  | 0, l, names => by simp [tri, triW]
  | k + 1, l, names => by
    unfold tri triW
    cases ear l with
    | none => rfl
    | some i =>
      simp only []
      rw [tri_W k]
      cases triW k (cutL l i) (names.eraseIdx i) with
      | none => rfl
      | some r => by_cases h : r.1 = [1, 1, 1] <;> simp [h]
theorem triS_W : ∀ (k : Nat) (l names : List Int), triS k l names = (triSW k l names).bind fun r => if r.1 = [1, 1, 1] then some r.2 else none
  | 0, l, names => by simp [triS, triSW]
  | k + 1, l, names => by
    unfold triS triSW
    cases ear l with
    | none => rfl
    | some i =>
      simp only []
      split
      · rw [triS_W k]
        cases triSW k (cutL l i) (names.eraseIdx i) with
        | none => rfl
        | some r => by_cases h : r.1 = [1, 1, 1] <;> simp [h]
      · rfl
theorem triW_len : ∀ (k : Nat) (l names : List Int) (r : List Int × List Dg), l.length = k + 3 → triW k l names = some r → r.1.length = 3 ∧ r.2.length = k
  | 0, l, names, r, hl, h => by
    unfold triW at h
    cases h
    exact ⟨hl, rfl⟩
  | k + 1, l, names, r, hl, h => by
    unfold triW at h
    cases he : ear l with
    | none => rw [he] at h; cases h
    | some i =>
      rw [he] at h
      obtain ⟨r', h1, h2⟩ := Option.map_eq_some_iff.1 h
      subst h2
      obtain ⟨g1, g2⟩ := triW_len k _ _ r' (by rw [cutL_length (ear_lt he).1]; omega) h1
      exact ⟨g1, by simp [g2]⟩
theorem triSW_len : ∀ (k : Nat) (l names : List Int) (r : List Int × List Dg), l.length = k + 3 → triSW k l names = some r → r.1.length = 3 ∧ r.2.length = k
  | 0, l, names, r, hl, h => by
    unfold triSW at h
    cases h
    exact ⟨hl, rfl⟩
  | k + 1, l, names, r, hl, h => by
    unfold triSW at h
    cases he : ear l with
    | none => rw [he] at h; cases h
    | some i =>
      rw [he] at h
      simp only [] at h
      split at h
      · obtain ⟨r', h1, h2⟩ := Option.map_eq_some_iff.1 h
        subst h2
        obtain ⟨g1, g2⟩ := triSW_len k _ _ r' (by rw [cutL_length (ear_lt he).1]; omega) h1
        exact ⟨g1, by simp [g2]⟩
      · cases h
theorem nb_tmod {n i : Nat} (hn : 3 ≤ n) (hn2 : n < 1000000) (hi : i < n) :
    Int.tmod (w64 ((w64 ((i : Int) + (n : Int))) - 1)) (n : Int) = (nbB n i : Int) ∧ Int.tmod (w64 ((i : Int) + 1)) (n : Int) = (nbC n i : Int) := by
  rw [w64_id (z := (i : Int) + n) (by omega) (by omega), w64_id (by omega) (by omega), w64_id (by omega) (by omega)]
  rw [Int.tmod_eq_emod_of_nonneg (by omega), Int.tmod_eq_emod_of_nonneg (by omega)]
  unfold nbB nbC
  rw [show (i : Int) + n - 1 = ((i + n - 1 : Nat) : Int) by omega, show (i : Int) + 1 = ((i + 1 : Nat) : Int) by omega]
  exact ⟨(Int.natCast_emod _ _).symm, (Int.natCast_emod _ _).symm⟩
theorem set_getD {l : List Int} {p : Nat} (h : p < l.length) : l[p]? = some (l.getD p 0) := by rw [List.getD_eq_getElem?_getD, List.getElem?_eq_getElem h]; rfl
theorem take_drop_erase {X : Type} (l : List X) (i : Nat) : l.take i ++ l.drop (i + 1) = l.eraseIdx i := (List.eraseIdx_eq_take_drop_succ l i).symm



/-- Lists in the order of their first difference. -/
def ltL : List Int → List Int → Bool
  | [], [] => false
  | [], _ :: _ => true
  | _ :: _, [] => false
  | x :: a, y :: b => if x < y then true else if y < x then false else ltL a b
def leL (a b : List Int) : Bool := !ltL b a
theorem ltL_irr : ∀ a : List Int, ltL a a = false
  | [] => rfl
  | x :: a => by simp [ltL, ltL_irr a]
theorem ltL_trans : ∀ {a b c : List Int}, ltL a b = true → ltL b c = true → ltL a c = true
  | [], [], c, h, _ => by simp [ltL] at h
  | [], y :: b, [], _, h => by simp [ltL] at h
  | [], y :: b, z :: c, _, _ => rfl
  | x :: a, [], c, h, _ => by simp [ltL] at h
  | x :: a, y :: b, [], _, h => by simp [ltL] at h
  | x :: a, y :: b, z :: c, h1, h2 => by
    unfold ltL at h1 h2 ⊢
    by_cases g1 : x < y
    · by_cases g2 : y < z
      · rw [if_pos (by omega)]
      · rw [if_neg g2] at h2
        by_cases g3 : z < y
        · rw [if_pos g3] at h2; cases h2
        · rw [if_pos (by omega)]
    · rw [if_neg g1] at h1
      by_cases g4 : y < x
      · rw [if_pos g4] at h1; cases h1
      · rw [if_neg g4] at h1
        have e : x = y := by omega
        subst e
        by_cases g2 : x < z
        · rw [if_pos g2]
        · rw [if_neg g2] at h2 ⊢
          by_cases g3 : z < x
          · rw [if_pos g3] at h2; cases h2
          · rw [if_neg g3] at h2 ⊢
            exact ltL_trans h1 h2
theorem ltL_tot : ∀ {a b : List Int}, ltL a b = false → ltL b a = false → a = b
  | [], [], _, _ => rfl
  | [], y :: b, h, _ => by simp [ltL] at h
  | x :: a, [], _, h => by simp [ltL] at h
  | x :: a, y :: b, h1, h2 => by
    unfold ltL at h1 h2
    by_cases g1 : x < y
    · rw [if_pos g1] at h1; cases h1
    · rw [if_neg g1] at h1
      by_cases g2 : y < x
      · rw [if_pos g2] at h2; cases h2
      · rw [if_neg g2] at h1 h2
        rw [if_neg g1] at h2
        rw [show x = y by omega, ltL_tot h1 h2]
theorem leL_tot (a b : List Int) : (leL a b || leL b a) = true := by
  unfold leL
  cases h1 : ltL b a with
  | false => rfl
  | true =>
    cases h2 : ltL a b with
    | false => rfl
    | true =>
      have := ltL_trans h1 h2
      rw [ltL_irr] at this
      cases this
theorem leL_trans {a b c : List Int} (h1 : leL a b = true) (h2 : leL b c = true) : leL a c = true := by
  unfold leL at h1 h2 ⊢
  simp only [Bool.not_eq_true'] at h1 h2 ⊢
  cases h : ltL c a with
  | false => rfl
  | true =>
    exfalso
    cases h3 : ltL a b with
    | true => have := ltL_trans h h3; rw [this] at h2; cases h2
    | false =>
      have := ltL_tot h3 h1
      subst this
      rw [h] at h2; cases h2
def sortL (l : List (List Int)) : List (List Int) := l.mergeSort leL
theorem sortL_perm (l : List (List Int)) : (sortL l).Perm l := List.mergeSort_perm l leL
theorem sortL_up (l : List (List Int)) : (sortL l).Pairwise fun a b => leL a b = true := List.pairwise_mergeSort (le := leL) (fun _ _ _ => leL_trans) leL_tot l
theorem sortL_unique {l m : List (List Int)} (h : m.Pairwise fun a b => leL a b = true) (hp : m.Perm l) : m = sortL l :=
  List.Perm.eq_of_pairwise (fun a b _ _ h1 h2 => ltL_tot (by simpa [leL] using h2) (by simpa [leL] using h1)) h (sortL_up l) (hp.trans (sortL_perm l).symm)
def gL (l : List (List Int)) (p : Nat) : List Int := l.getD p []
theorem gL_eq {l : List (List Int)} {p : Nat} (h : p < l.length) : gL l p = l[p] := by unfold gL; rw [List.getD_eq_getElem?_getD, List.getElem?_eq_getElem h]; rfl
theorem gL_some {l : List (List Int)} {p : Nat} (h : p < l.length) : l[p]? = some (gL l p) := by rw [gL_eq h, List.getElem?_eq_getElem h]
/-- Where a list belongs, sought from the end. -/
def placeL (q : List Int) (out : List (List Int)) : Nat → Nat
  | 0 => 0
  | k + 1 => if ltL q (gL out k) then placeL q out k else k + 1
theorem placeL_spec (q : List Int) (out : List (List Int)) : ∀ k, placeL q out k ≤ k ∧ (∀ p, placeL q out k ≤ p → p < k → ltL q (gL out p) = true) ∧ (0 < placeL q out k → ltL q (gL out (placeL q out k - 1)) = false)
  | 0 => ⟨Nat.le_refl _, fun p h1 h2 => by omega, fun h => by simp [placeL] at h⟩
  | k + 1 => by
    unfold placeL
    cases hq : ltL q (gL out k) with
    | true =>
      obtain ⟨h1, h2, h3⟩ := placeL_spec q out k
      simp only [if_true]
      refine ⟨by omega, fun p g1 g2 => ?_, h3⟩
      by_cases e : p = k
      · subst e; exact hq
      · exact h2 p g1 (by omega)
    | false =>
      simp only [Bool.false_eq_true, if_false]
      refine ⟨Nat.le_refl _, fun p h1 h2 => by omega, fun _ => ?_⟩
      simpa using hq
def insL (out : List (List Int)) (q : List Int) : List (List Int) := out.take (placeL q out out.length) ++ q :: out.drop (placeL q out out.length)
theorem insL_perm (out : List (List Int)) (q : List Int) : (insL out q).Perm (q :: out) := by
  unfold insL
  have h := List.perm_middle (a := q) (l₁ := out.take (placeL q out out.length)) (l₂ := out.drop (placeL q out out.length))
  rwa [List.take_append_drop] at h
theorem insL_up {out : List (List Int)} (q : List Int) (h : out.Pairwise fun a b => leL a b = true) : (insL out q).Pairwise fun a b => leL a b = true := by
  obtain ⟨h1, h2, h3⟩ := placeL_spec q out out.length
  unfold insL
  generalize placeL q out out.length = k at *
  have hg := List.pairwise_iff_getElem.1 h
  rw [List.pairwise_append]
  refine ⟨h.sublist (List.take_sublist ..), ?_, fun a ha b hb => ?_⟩
  · rw [List.pairwise_cons]
    refine ⟨fun b hb => ?_, h.sublist (List.drop_sublist ..)⟩
    obtain ⟨p, hp, e⟩ := List.mem_drop_iff_getElem.1 hb
    have := h2 (k + p) (by omega) (by omega)
    rw [gL_eq (by omega), e] at this
    unfold leL
    cases hc : ltL b q with
    | false => rfl
    | true => have := ltL_trans this hc; rw [ltL_irr] at this; cases this
  · obtain ⟨i, hi, ei⟩ := List.mem_take_iff_getElem.1 ha
    have hk : 0 < k := by omega
    have hq : leL (gL out (k - 1)) q = true := by unfold leL; rw [h3 hk]; rfl
    have hiq : leL a q = true := by
      by_cases e : i = k - 1
      · subst e; rw [gL_eq (by omega), ei] at hq; exact hq
      · have := hg i (k - 1) (by omega) (by omega) (by omega)
        rw [ei, ← gL_eq (show k - 1 < out.length by omega)] at this
        exact leL_trans this hq
    rcases List.mem_cons.1 hb with rfl | hb
    · exact hiq
    · obtain ⟨p, hp, e⟩ := List.mem_drop_iff_getElem.1 hb
      have := hg i (k + p) (by omega) (by omega) (by omega)
      rwa [ei, e] at this
theorem insL_all : ∀ (l out : List (List Int)), (out.Pairwise fun a b => leL a b = true) → ((l.foldl insL out).Pairwise fun a b => leL a b = true) ∧ (l.foldl insL out).Perm (out ++ l)
  | [], out, h => ⟨h, by simp⟩
  | q :: l, out, h => by
    obtain ⟨h1, h2⟩ := insL_all l (insL out q) (insL_up q h)
    refine ⟨h1, h2.trans ?_⟩
    exact ((insL_perm out q).append_right l).trans (by simpa using (List.perm_middle (a := q) (l₁ := out) (l₂ := l)).symm)
theorem insL_sortL (l : List (List Int)) : l.foldl insL [] = sortL l := by
  obtain ⟨h1, h2⟩ := insL_all l [] (by simp)
  exact sortL_unique h1 (by rwa [List.nil_append] at h2)



def freeD (d : Dg) (b : List Dg) : Bool := !b.any (crossD d)
/-- All ways to go on with the beginning of a triangulation. -/
def goL (m : Nat) : List Dg → List Dg → List (List Dg)
  | [], _ => []
  | d :: rest, b => (if freeD d b then (if b.length + 1 = m then [b ++ [d]] else goL m rest (b ++ [d])) else []) ++ goL m rest b
def lookL (m : Nat) (rest b : List Dg) : List (List Dg) := if b.length = m then [b] else goL m rest b
theorem goL_cons (m : Nat) (d : Dg) (rest b : List Dg) : goL m (d :: rest) b = (if freeD d b then lookL m rest (b ++ [d]) else []) ++ goL m rest b := by
  conv => lhs; unfold goL
  unfold lookL
  simp only [List.length_append, List.length_cons, List.length_nil, Nat.zero_add]
def dgL (n : Nat) : List Dg := (List.range n).flatMap fun (a : Nat) => (((List.range n).map fun (b : Nat) => ((a : Int), (b : Int))).filter fun d => inDg n d)
theorem goL_len (m : Nat) : ∀ (rest b : List Dg), (goL m rest b).length ≤ 2 ^ rest.length
  | [], b => by simp [goL]
  | d :: rest, b => by
    have h1 := goL_len m rest b
    have h2 := goL_len m rest (b ++ [d])
    have h3 : 1 ≤ 2 ^ rest.length := Nat.one_le_two_pow
    rw [goL_cons, List.length_append, List.length_cons, Nat.pow_succ]
    unfold lookL
    by_cases hf : freeD d b = true
    · rw [if_pos hf]
      by_cases hb : (b ++ [d]).length = m
      · rw [if_pos hb]; simp only [List.length_cons, List.length_nil]; omega
      · rw [if_neg hb]; omega
    · rw [if_neg hf]; simp only [List.length_nil]; omega
theorem goL_mem (m : Nat) : ∀ (rest b ds : List Dg), ds ∈ goL m rest b → ds.length = m ∧ ∀ d ∈ ds, d ∈ b ∨ d ∈ rest
  | [], b, ds, h => by simp [goL] at h
  | d :: rest, b, ds, h => by
    rw [goL_cons, List.mem_append] at h
    rcases h with h | h
    · split at h
      · unfold lookL at h
        split at h
        · rename_i hl
          simp only [List.mem_singleton] at h
          subst h
          refine ⟨hl, fun e he => ?_⟩
          rcases List.mem_append.1 he with he | he
          · exact .inl he
          · simp only [List.mem_singleton] at he; subst he; exact .inr (by simp)
        · obtain ⟨h1, h2⟩ := goL_mem m rest (b ++ [d]) ds h
          refine ⟨h1, fun e he => ?_⟩
          rcases h2 e he with h | h
          · rcases List.mem_append.1 h with h | h
            · exact .inl h
            · simp only [List.mem_singleton] at h; subst h; exact .inr (by simp)
          · exact .inr (by simp [h])
      · cases h
    · obtain ⟨h1, h2⟩ := goL_mem m rest b ds h
      exact ⟨h1, fun e he => (h2 e he).imp id fun h => by simp [h]⟩
/-- All triangulations. -/
def allT (n : Nat) : List (List Dg) := lookL (n - 3) (dgL n) []
theorem dgL_len (n : Nat) (h : n ≤ 9) : (dgL n).length ≤ 27 := by
  have : ∀ k, k ≤ 9 → (dgL k).length ≤ 27 := by decide +kernel
  exact this n h
theorem allT_len (n : Nat) (h : n ≤ 9) : (allT n).length ≤ 134217728 := by
  unfold allT lookL
  split
  · simp
  · have h1 := goL_len (n - 3) (dgL n) []
    have h2 : 2 ^ (dgL n).length ≤ 2 ^ 27 := Nat.pow_le_pow_right (by omega) (dgL_len n h)
    have : (2 : Nat) ^ 27 = 134217728 := by decide
    omega
def rowD (n a b : Nat) : List Dg := (((List.range n).drop b).map fun (b : Nat) => ((a : Int), (b : Int))).filter fun d => inDg n d
theorem rowD_end (n a : Nat) : rowD n a n = [] := by
  unfold rowD
  rw [List.drop_of_length_le (by simp)]
  rfl
theorem rowD_step {n a b : Nat} (h : b < n) : rowD n a b = (if inDg n ((a : Int), (b : Int)) then [((a : Int), (b : Int))] else []) ++ rowD n a (b + 1) := by
  unfold rowD
  rw [List.drop_eq_getElem_cons (by simpa using h), List.map_cons, List.filter_cons, List.getElem_range]
  split <;> rfl
theorem inDg_iff {n : Int} {d : Dg} : inDg n d = true ↔ (0 ≤ d.1 ∧ d.1 ≤ n - 1) ∧ (0 ≤ d.2 ∧ d.2 ≤ n - 1) ∧ d.2 - d.1 > 1 ∧ ¬ (d.1 = 0 ∧ d.2 = n - 1) := by
  unfold inDg
  simp [inB_iff, and_assoc]
  intros
  omega
theorem rowD_front (n a : Nat) : ∀ k, k ≤ a + 2 → rowD n a 0 = rowD n a k
  | 0, _ => rfl
  | k + 1, h => by
    rw [rowD_front n a k (by omega)]
    by_cases hk : k < n
    · rw [rowD_step hk, if_neg, List.nil_append]
      rw [inDg_iff]
      simp only []
      omega
    · unfold rowD
      rw [List.drop_of_length_le (by simp; omega), List.drop_of_length_le (by simp; omega)]
theorem dgL_rows (n : Nat) : dgL n = (List.range n).flatMap fun a => rowD n a 0 := rfl
theorem rowD_len (n a b : Nat) : (rowD n a b).length ≤ n := by
  unfold rowD
  exact Nat.le_trans (List.length_filter_le ..) (by simp)
def rowsD (n a : Nat) : List Dg := ((List.range n).drop a).flatMap fun a => rowD n a 0
theorem rowsD_end (n : Nat) : rowsD n n = [] := by unfold rowsD; rw [List.drop_of_length_le (by simp)]; rfl
theorem rowsD_step {n a : Nat} (h : a < n) : rowsD n a = rowD n a 0 ++ rowsD n (a + 1) := by
  unfold rowsD
  rw [List.drop_eq_getElem_cons (by simpa using h), List.flatMap_cons, List.getElem_range]
theorem drop_gD {t : List Dg} {i : Nat} (h : i < t.length) : t.drop i = gD t i :: t.drop (i + 1) := by rw [gD_eq h, List.drop_eq_getElem_cons h]
theorem look_pow {m : Nat} {t b : List Dg} {i k : Nat} (hm : m = t.length - (i + 1)) : (lookL k (t.drop (i + 1)) b).length ≤ 2 ^ m := by
  unfold lookL
  split
  · simp only [List.length_cons, List.length_nil]; exact Nat.one_le_two_pow
  · have := goL_len k (t.drop (i + 1)) b
    rwa [List.length_drop, ← hm] at this
/-- All quiddities. -/
def allQ (n : Nat) : List (List Int) := sortL ((allT n).map (quid n))
theorem allT_in {n : Nat} {ds : List Dg} (hn : 3 ≤ n ∧ n ≤ 9) (h : ds ∈ allT n) : ds.length = n - 3 ∧ ∀ d ∈ ds, 0 ≤ d.1 ∧ d.1 < d.2 ∧ d.2 < (n : Int) := by
  have hg : ds.length = n - 3 ∧ ∀ d ∈ ds, d ∈ dgL n := by
    unfold allT lookL at h
    split at h
    · rename_i hl
      simp only [List.mem_singleton] at h
      subst h
      exact ⟨hl, by simp⟩
    · obtain ⟨h1, h2⟩ := goL_mem _ _ _ _ h
      exact ⟨h1, fun d hd => (h2 d hd).resolve_left (by simp)⟩
  refine ⟨hg.1, fun d hd => ?_⟩
  have := hg.2 d hd
  unfold dgL at this
  obtain ⟨a, _, ha⟩ := List.mem_flatMap.1 this
  have := (List.mem_filter.1 ha).2
  rw [inDg_iff] at this
  omega
theorem quid_length (n : Nat) (ds : List Dg) : (quid n ds).length = n := by simp [quid]
theorem ltL_drop {a b : List Int} (h : a.length = b.length) : ∀ {k : Nat}, k < a.length → ltL (a.drop k) (b.drop k) = if a.getD k 0 ≠ b.getD k 0 then decide (a.getD k 0 < b.getD k 0) else ltL (a.drop (k + 1)) (b.drop (k + 1)) := by
  intro k hk
  have hb : k < b.length := by omega
  rw [List.drop_eq_getElem_cons hk, List.drop_eq_getElem_cons hb]
  simp only [List.getD_eq_getElem?_getD, List.getElem?_eq_getElem hk, List.getElem?_eq_getElem hb, Option.getD_some]
  conv => lhs; unfold ltL
  by_cases h1 : a[k] < b[k]
  · rw [if_pos h1, if_pos (by omega)]; simp [h1]
  · rw [if_neg h1]
    by_cases h2 : b[k] < a[k]
    · rw [if_pos h2, if_pos (by omega)]; simp [h1]
    · rw [if_neg h2, if_neg (by omega)]
theorem insL_length (out : List (List Int)) (q : List Int) : (insL out q).length = out.length + 1 := by simpa using (insL_perm out q).length_eq
def solL (p : List Int) : List (List Int) := (allQ p.length).filter (fits p)
theorem allQ_len (n : Nat) (hn : n ≤ 9) : (allQ n).length ≤ 134217728 := by
  unfold allQ
  rw [(sortL_perm _).length_eq, List.length_map]
  exact allT_len n hn
theorem allQ_mem {n : Nat} {q : List Int} (h : q ∈ allQ n) : q.length = n := by
  have := (sortL_perm _).mem_iff.1 h
  obtain ⟨ds, _, e⟩ := List.mem_map.1 this
  rw [← e, quid_length]
theorem solL_len (p : List Int) (hp : p.length ≤ 9) : (solL p).length ≤ 134217728 := Nat.le_trans (List.length_filter_le ..) (allQ_len _ hp)
def solR (p : List Int) : Bool × List (List Int) := if isPz p then (if (solL p).length ≤ 300 then (true, solL p) else (false, [])) else (false, [])
/-- Where two lists differ, none is sure. -/
def sureG (q s : List Int) (j : Nat) : List Int := if s.getD j 0 ≠ q.getD j 0 then s.set j 0 else s
def sureQ (s q : List Int) : List Int := (List.range s.length).foldl (sureG q) s
theorem sureG_len (q s : List Int) (j : Nat) : (sureG q s j).length = s.length := by unfold sureG; split <;> simp
theorem sureQ_len (s q : List Int) : (sureQ s q).length = s.length := by
  unfold sureQ
  have : ∀ (l : List Nat) (s : List Int), (l.foldl (sureG q) s).length = s.length := by
    intro l
    induction l with
    | nil => intro s; rfl
    | cons j l ih => intro s; rw [List.foldl_cons, ih, sureG_len]
  exact this _ _
def surR (p : List Int) : Bool × List Int := match (solR p).1, (solR p).2 with
  | true, q :: t => (true, (q :: t).foldl sureQ q)
  | _, _ => (false, [])
theorem solR_mem {p q : List Int} (h : q ∈ (solR p).2) : q.length = p.length ∧ p.length ≤ 9 := by
  unfold solR at h
  split at h
  · rename_i hp
    split at h
    · exact ⟨allQ_mem (List.mem_filter.1 h).1, (isPz_len hp).2⟩
    · simp at h
  · simp at h
theorem solR_len (p : List Int) : (solR p).2.length ≤ 300 := by
  unfold solR
  split
  · split
    · assumption
    · simp
  · simp
theorem sureL_len (n : Nat) : ∀ (l : List (List Int)) (s : List Int), s.length = n → (l.foldl sureQ s).length = n
  | [], s, h => h
  | q :: l, s, h => by rw [List.foldl_cons]; exact sureL_len n l (sureQ s q) (by rw [sureQ_len, h])
theorem surR_len (p : List Int) : (surR p).2.length ≤ 9 := by
  unfold surR
  have hm : ∀ q ∈ (solR p).2, q.length = p.length ∧ p.length ≤ 9 := fun q h => solR_mem h
  generalize solR p = r at *
  obtain ⟨ok, l⟩ := r
  simp only at hm
  cases ok with
  | false => simp
  | true =>
    cases l with
    | nil => simp
    | cons q t =>
      have hq := hm q (by simp)
      have := sureL_len q.length (q :: t) q rfl
      show ((q :: t).foldl sureQ q).length ≤ 9
      omega


def s_poDiagonal_sh : FSh := ⟨[(.one (.si .i64)), (.ag [(.si .i64), (.si .i64)])], []⟩

def s_poDiagonal_fo : List FO := [⟨[(.one .sb)], []⟩]
noncomputable def s_poDiagonal_t : (Int × (Int × Int)) → T Bool := fun (n, (d_0, d_1)) =>
  (.sub (s_poIs n) fun z0 =>
  (.test z0
  (.sub (s_l1In (d_0, ((0 : Int), (w64 (n - 1))))) fun z1 =>
   (.test z1
   (.sub (s_l1In (d_1, ((0 : Int), (w64 (n - 1))))) fun z2 =>
    (.test z2
    (.test (decide ((w64 (d_1 - d_0)) ≥ 2))
     (.ret (decide ((w64 (d_1 - d_0)) ≤ (w64 (n - 2)))))
     (.ret false))
    (.ret false)))
   (.ret false)))
  (.ret false)))
noncomputable def s_poDiagonal (v : (Int × (Int × Int))) : Option Bool := (s_poDiagonal_t v).run
noncomputable def s_poDiagonal_E : TEnv := ((E0.add1 n_s_poIs s_poIs_sh s_poIs_fo s_poIs).add1 n_s_l1In s_l1In_sh s_l1In_fo s_l1In)
theorem s_poDiagonal_Eok : (s_poDiagonal_E).OK := ((E0ok.add1 s_poIs_ok).add1 s_l1In_ok)
noncomputable def s_poDiagonal_told : Nat → Option SealT := fun id => none
theorem s_poDiagonal_ok : FOK Try.prog n_s_poDiagonal s_poDiagonal_sh s_poDiagonal_fo s_poDiagonal :=
  fn_ok (E := s_poDiagonal_E) (s_poDiagonal_Eok) (told := s_poDiagonal_told) (fl := []) (c := bodyOf fn_s_poDiagonal) (s := s_poDiagonal_sh) (l := s_poDiagonal_fo) (tree := s_poDiagonal_t) fnat_s_poDiagonal (by kernel_rfl) (by kernel_rfl) (by kernel_rfl) (loopsOK_of (ls := []) (by kernel_rfl) trivial) (fun v => by kernel_rfl)

theorem s_poDiagonal_eq (n : Int) (d : Dg) (h1 : 3 ≤ n) (h2 : n ≤ 12) : s_poDiagonal (n, d) = some (inDg n d) := by
  obtain ⟨a, b⟩ := d
  have hp : inB 3 12 n = true := inB_iff.2 ⟨h1, h2⟩
  simp only [s_poDiagonal, s_poDiagonal_t, T.run, s_poIs, s_poIs_t, s_l1In_eq, Option.bind_some, hp, if_true, w64_id (z := n - 1) (by omega) (by omega), w64_id (z := n - 2) (by omega) (by omega)]
  cases ha : inB 0 (n - 1) a with
  | false => simp [inDg, ha]
  | true =>
    cases hb : inB 0 (n - 1) b with
    | false => simp [inDg, hb]
    | true =>
      have e : inDg n (a, b) = decide (b - a ≥ 2 ∧ b - a ≤ n - 2) := by
        rw [Bool.eq_iff_iff, inDg_iff, decide_eq_true_eq]
        rw [inB_iff] at ha hb
        simp only []
        omega
      rw [inB_iff] at ha hb
      rw [w64_id (z := b - a) (by omega) (by omega), e]
      by_cases g1 : b - a ≥ 2 <;> by_cases g2 : b - a ≤ n - 2 <;> simp [g1, g2]


def s_poLess_sh : FSh := ⟨[(.ag [(.si .i64), (.si .i64)]), (.ag [(.si .i64), (.si .i64)])], []⟩

def s_poLess_fo : List FO := [⟨[(.one .sb)], []⟩]
noncomputable def s_poLess_t : ((Int × Int) × (Int × Int)) → T Bool := fun ((d_0, d_1), (e_0, e_1)) =>
  (.test (decide (d_0 < e_0))
  (.ret true)
  (.test (d_0 == e_0)
   (.ret (decide (d_1 < e_1)))
   (.ret false)))
noncomputable def s_poLess (v : ((Int × Int) × (Int × Int))) : Option Bool := (s_poLess_t v).run
noncomputable def s_poLess_E : TEnv := E0
theorem s_poLess_Eok : (s_poLess_E).OK := E0ok
noncomputable def s_poLess_told : Nat → Option SealT := fun id => none
theorem s_poLess_ok : FOK Try.prog n_s_poLess s_poLess_sh s_poLess_fo s_poLess :=
  fn_ok (E := s_poLess_E) (s_poLess_Eok) (told := s_poLess_told) (fl := []) (c := bodyOf fn_s_poLess) (s := s_poLess_sh) (l := s_poLess_fo) (tree := s_poLess_t) fnat_s_poLess (by kernel_rfl) (by kernel_rfl) (by kernel_rfl) (loopsOK_of (ls := []) (by kernel_rfl) trivial) (fun v => by kernel_rfl)

theorem s_poLess_eq (d e : Dg) : s_poLess (d, e) = some (ltD d e) := by
  obtain ⟨a, b⟩ := d
  obtain ⟨c, f⟩ := e
  simp only [s_poLess, s_poLess_t, T.run, ltD]
  by_cases h1 : a < c
  · simp [h1]
  · by_cases h2 : a = c
    · subst h2; simp [h1]
    · simp [h1, h2]


def s_poCross_sh : FSh := ⟨[(.ag [(.si .i64), (.si .i64)]), (.ag [(.si .i64), (.si .i64)])], []⟩

def s_poCross_fo : List FO := [⟨[(.one .sb)], []⟩]
noncomputable def s_poCross_t : ((Int × Int) × (Int × Int)) → T Bool := fun ((d_0, d_1), (e_0, e_1)) =>
  (.test (decide (d_0 < e_0))
  (.test (decide (e_0 < d_1))
   (.test (decide (d_1 < e_1))
    (.ret true)
    (.test (decide (e_0 < d_0))
     (.test (decide (d_0 < e_1))
      (.ret (decide (e_1 < d_1)))
      (.ret false))
     (.ret false)))
   (.test (decide (e_0 < d_0))
    (.test (decide (d_0 < e_1))
     (.ret (decide (e_1 < d_1)))
     (.ret false))
    (.ret false)))
  (.test (decide (e_0 < d_0))
   (.test (decide (d_0 < e_1))
    (.ret (decide (e_1 < d_1)))
    (.ret false))
   (.ret false)))
noncomputable def s_poCross (v : ((Int × Int) × (Int × Int))) : Option Bool := (s_poCross_t v).run
noncomputable def s_poCross_E : TEnv := E0
theorem s_poCross_Eok : (s_poCross_E).OK := E0ok
noncomputable def s_poCross_told : Nat → Option SealT := fun id => none
theorem s_poCross_ok : FOK Try.prog n_s_poCross s_poCross_sh s_poCross_fo s_poCross :=
  fn_ok (E := s_poCross_E) (s_poCross_Eok) (told := s_poCross_told) (fl := []) (c := bodyOf fn_s_poCross) (s := s_poCross_sh) (l := s_poCross_fo) (tree := s_poCross_t) fnat_s_poCross (by kernel_rfl) (by kernel_rfl) (by kernel_rfl) (loopsOK_of (ls := []) (by kernel_rfl) trivial) (fun v => by kernel_rfl)

theorem s_poCross_eq (d e : Dg) : s_poCross (d, e) = some (crossD d e) := by
  obtain ⟨a, b⟩ := d
  obtain ⟨c, f⟩ := e
  simp only [s_poCross, s_poCross_t, T.run, crossD]
  by_cases h1 : a < c <;> by_cases h2 : c < b <;> by_cases h3 : b < f <;> by_cases h4 : c < a <;> by_cases h5 : a < f <;> by_cases h6 : f < b <;> simp [h1, h2, h3, h4, h5, h6]



theorem sorted_ext {l m : List Int} (h1 : l.Pairwise (· < ·)) (h2 : m.Pairwise (· < ·)) (h : ∀ v, v ∈ l ↔ v ∈ m) : l = m := by
  have n1 : l.Nodup := h1.imp fun {a b} h => by omega
  have n2 : m.Nodup := h2.imp fun {a b} h => by omega
  exact List.Perm.eq_of_pairwise (fun a b _ _ g1 g2 => by omega) h1 h2 ((List.perm_ext_iff_of_nodup n1 n2).2 h)
theorem exists_min {α : Type} (f : α → Nat) (p : α → Prop) : ∀ (l : List α), (∃ x ∈ l, p x) → ∃ x ∈ l, p x ∧ ∀ y ∈ l, p y → f x ≤ f y
  | [], h => by obtain ⟨x, hx, _⟩ := h; cases hx
  | a :: l, h => by
    by_cases g : ∃ x ∈ l, p x
    · obtain ⟨x, hx, px, hm⟩ := exists_min f p l g
      by_cases pa : p a
      · by_cases c : f a ≤ f x
        · exact ⟨a, by simp, pa, fun y hy py => by
            rcases List.mem_cons.1 hy with rfl | hy
            · exact Nat.le_refl _
            · exact Nat.le_trans c (hm y hy py)⟩
        · exact ⟨x, by simp [hx], px, fun y hy py => by
            rcases List.mem_cons.1 hy with rfl | hy
            · omega
            · exact hm y hy py⟩
      · exact ⟨x, by simp [hx], px, fun y hy py => by
          rcases List.mem_cons.1 hy with rfl | hy
          · exact absurd py pa
          · exact hm y hy py⟩
    · obtain ⟨x, hx, px⟩ := h
      rcases List.mem_cons.1 hx with rfl | hx
      · exact ⟨x, by simp, px, fun y hy py => by
          rcases List.mem_cons.1 hy with rfl | hy
          · exact Nat.le_refl _
          · exact absurd ⟨y, hy, py⟩ g⟩
      · exact absurd ⟨x, hx, px⟩ g
/-- The corner is cut off by a chord that lies in another one. -/
def covD (ds : List Dg) (k : Dg) (v : Int) : Bool := ds.any fun d => decide (k.1 ≤ d.1 ∧ d.1 < v ∧ v < d.2 ∧ d.2 ≤ k.2 ∧ d ≠ k)
/-- The piece below a chord. -/
def pcs (n : Nat) (ds : List Dg) (k : Dg) : List Int := (nameL n).filter fun v => decide (k.1 ≤ v ∧ v ≤ k.2) && !covD ds k v
theorem covD_iff {ds : List Dg} {k : Dg} {v : Int} : covD ds k v = true ↔ ∃ d ∈ ds, k.1 ≤ d.1 ∧ d.1 < v ∧ v < d.2 ∧ d.2 ≤ k.2 ∧ d ≠ k := by
  unfold covD
  rw [List.any_eq_true]
  simp only [decide_eq_true_eq]
theorem nameL_iff {n : Nat} {v : Int} : v ∈ nameL n ↔ 0 ≤ v ∧ v < (n : Int) := by
  constructor
  · exact nameL_mem
  · intro h
    exact List.mem_of_getElem? (by rw [nameL_get (p := v.toNat) (by omega)]; rw [Int.toNat_of_nonneg h.1])
theorem pcs_mem {n : Nat} {ds : List Dg} {k : Dg} {v : Int} : v ∈ pcs n ds k ↔ (0 ≤ v ∧ v < (n : Int)) ∧ (k.1 ≤ v ∧ v ≤ k.2) ∧ ∀ d ∈ ds, k.1 ≤ d.1 → d.2 ≤ k.2 → d ≠ k → d.1 < v → v < d.2 → False := by
  unfold pcs
  rw [List.mem_filter, nameL_iff, Bool.and_eq_true, decide_eq_true_eq, Bool.not_eq_true', ← Bool.not_eq_true, covD_iff]
  constructor
  · rintro ⟨h1, h2, h3⟩
    exact ⟨h1, h2, fun d hd a b c e f => h3 ⟨d, hd, a, e, f, b, c⟩⟩
  · rintro ⟨h1, h2, h3⟩
    exact ⟨h1, h2, fun ⟨d, hd, a, e, f, b, c⟩ => h3 d hd a b c e f⟩
theorem pcs_sorted (n : Nat) (ds : List Dg) (k : Dg) : (pcs n ds k).Pairwise (· < ·) := (nameL_sorted n).filter _
def wholeD (n : Nat) : Dg := (0, (n : Int) - 1)
/-- A cut. -/
def CutD (n : Nat) (ds : List Dg) : Prop := (∀ d ∈ ds, 0 ≤ d.1 ∧ d.1 + 1 < d.2 ∧ d.2 < (n : Int) ∧ d ≠ wholeD n) ∧ ds.Pairwise fun d e => d ≠ e ∧ crossD d e = false
theorem cross_no {d e : Dg} (h : crossD d e = false) : ¬ (d.1 < e.1 ∧ e.1 < d.2 ∧ d.2 < e.2) ∧ ¬ (e.1 < d.1 ∧ d.1 < e.2 ∧ e.2 < d.2) := by
  unfold crossD at h
  simp only [Bool.or_eq_false_iff, Bool.and_eq_false_iff, decide_eq_false_iff_not] at h
  omega
/-- Chords of a cut, and the whole, against each other. -/
theorem CutD.apart {n : Nat} {ds : List Dg} (h : CutD n ds) {d e : Dg} (hd : d ∈ wholeD n :: ds) (he : e ∈ wholeD n :: ds) : ¬ (d.1 < e.1 ∧ e.1 < d.2 ∧ d.2 < e.2) := by
  have low : ∀ d ∈ wholeD n :: ds, 0 ≤ d.1 ∧ d.2 < (n : Int) := fun d hd => by
    rcases List.mem_cons.1 hd with rfl | hd
    · simp only [wholeD]; omega
    · have := h.1 d hd; omega
  rcases List.mem_cons.1 hd with rfl | hd
  · have := low e he; simp only [wholeD]; omega
  · rcases List.mem_cons.1 he with rfl | he
    · have := h.1 d hd; simp only [wholeD]; omega
    · by_cases e1 : d = e
      · subst e1; omega
      · obtain ⟨i, hi, ei⟩ := List.getElem_of_mem hd
        obtain ⟨j, hj, ej⟩ := List.getElem_of_mem he
        have hp := List.pairwise_iff_getElem.1 h.2
        rcases Nat.lt_trichotomy i j with c | c | c
        · have := hp i j hi hj c
          rw [ei, ej] at this
          exact (cross_no this.2).1
        · subst c; exact absurd (ei.symm.trans ej) e1
        · have := hp j i hj hi c
          rw [ei, ej] at this
          exact (cross_no this.2).2
theorem CutD.front {n : Nat} {ds es : List Dg} (h : CutD n (ds ++ es)) : CutD n ds := ⟨fun d hd => h.1 d (by simp [hd]), (List.pairwise_append.1 h.2).1⟩
theorem CutD.nodup {n : Nat} {ds : List Dg} (h : CutD n ds) : (wholeD n :: ds).Nodup := by
  rw [List.nodup_cons]
  exact ⟨fun hm => (h.1 _ hm).2.2.2 rfl, h.2.imp fun {a b} h => h.1⟩
/-- One chord more. -/
structure MoreD (n : Nat) (ds : List Dg) (d k : Dg) : Prop where
  cut : CutD n (ds ++ [d])
  key : k ∈ wholeD n :: ds
  lo : d.1 ∈ pcs n ds k
  hi : d.2 ∈ pcs n ds k
theorem MoreD.enc {n : Nat} {ds : List Dg} {d k : Dg} (h : MoreD n ds d k) : k.1 ≤ d.1 ∧ d.1 + 1 < d.2 ∧ d.2 ≤ k.2 ∧ d ≠ k := by
  have h1 := (pcs_mem.1 h.lo).2.1
  have h2 := (pcs_mem.1 h.hi).2.1
  have h3 := h.cut.1 d (by simp)
  refine ⟨h1.1, h3.2.1, h2.2, fun e => ?_⟩
  subst e
  rcases List.mem_cons.1 h.key with e | e
  · exact h3.2.2.2 e
  · exact ((List.pairwise_append.1 h.cut.2).2.2 d e d (by simp)).1 rfl
theorem MoreD.ap {n : Nat} {ds : List Dg} {d k : Dg} (h : MoreD n ds d k) {e : Dg} (he : e ∈ wholeD n :: ds) : ¬ (d.1 < e.1 ∧ e.1 < d.2 ∧ d.2 < e.2) ∧ ¬ (e.1 < d.1 ∧ d.1 < e.2 ∧ e.2 < d.2) := by
  have he' : e ∈ wholeD n :: (ds ++ [d]) := by
    rcases List.mem_cons.1 he with rfl | he
    · simp
    · simp [he]
  exact ⟨h.cut.apart (by simp) he', h.cut.apart he' (by simp)⟩
theorem more_exists {n : Nat} {ds : List Dg} {d : Dg} (h : CutD n (ds ++ [d])) : ∃ k, MoreD n ds d k := by
  have hd := h.1 d (by simp)
  have ap : ∀ e ∈ ds, ¬ (d.1 < e.1 ∧ e.1 < d.2 ∧ d.2 < e.2) ∧ ¬ (e.1 < d.1 ∧ d.1 < e.2 ∧ e.2 < d.2) := fun e he =>
    ⟨h.apart (by simp) (by simp [he]), h.apart (by simp [he]) (by simp)⟩
  obtain ⟨k, hk, ⟨k1, k2⟩, hm⟩ := exists_min (fun k : Dg => (k.2 - k.1).toNat) (fun k => k.1 ≤ d.1 ∧ d.2 ≤ k.2) (wholeD n :: ds) ⟨wholeD n, by simp, by simp only [wholeD]; omega⟩
  have key : ∀ v, v = d.1 ∨ v = d.2 → v ∈ pcs n ds k := fun v hv => by
    rw [pcs_mem]
    refine ⟨by omega, by omega, fun e he h1 h2 h3 h4 h5 => ?_⟩
    have := ap e he
    have hm := hm e (by simp [he]) (by omega)
    have hne : ¬ (e.1 = k.1 ∧ e.2 = k.2) := fun h => h3 (Prod.ext h.1 h.2)
    omega
  exact ⟨k, h, hk, key _ (.inl rfl), key _ (.inr rfl)⟩
theorem more_unique {n : Nat} {ds : List Dg} {d k l : Dg} (h1 : MoreD n ds d k) (h2 : MoreD n ds d l) : k = l := by
  have e1 := h1.enc
  have e2 := h2.enc
  have c := h1.cut.front
  have a1 := c.apart h1.key h2.key
  have a2 := c.apart h2.key h1.key
  have m1 := (pcs_mem.1 h1.lo).2.2
  have m2 := (pcs_mem.1 h1.hi).2.2
  have m3 := (pcs_mem.1 h2.lo).2.2
  have m4 := (pcs_mem.1 h2.hi).2.2
  have low : ∀ k ∈ wholeD n :: ds, ∀ l ∈ wholeD n :: ds, (k.1 ≤ l.1 ∧ l.2 ≤ k.2) → l ≠ k → l ∈ ds := fun k hk l hl hi hne => by
    rcases List.mem_cons.1 hl with rfl | hl
    · exfalso
      rcases List.mem_cons.1 hk with rfl | hk
      · exact hne rfl
      · have := c.1 k hk
        simp only [wholeD] at hi
        exact this.2.2.2 (Prod.ext (by simp only [wholeD]; omega) (by simp only [wholeD]; omega))
    · exact hl
  apply Classical.byContradiction
  intro hne
  have hne' : ¬ (k.1 = l.1 ∧ k.2 = l.2) := fun h => hne (Prod.ext h.1 h.2)
  have hd1 : ¬ (d.1 = k.1 ∧ d.2 = k.2) := fun h => e1.2.2.2 (Prod.ext h.1 h.2)
  have hd2 : ¬ (d.1 = l.1 ∧ d.2 = l.2) := fun h => e2.2.2.2 (Prod.ext h.1 h.2)
  by_cases g : k.1 ≤ l.1 ∧ l.2 ≤ k.2
  · have hl := low k h1.key l h2.key g (Ne.symm hne)
    have g1 := m1 l hl g.1 g.2 (Ne.symm hne)
    have g2 := m2 l hl g.1 g.2 (Ne.symm hne)
    by_cases c1 : l.1 < d.1
    · exact g1 c1 (by omega)
    · exact g2 (by omega) (by omega)
  · have g : l.1 ≤ k.1 ∧ k.2 ≤ l.2 := by omega
    have hk := low l h2.key k h1.key g hne
    have g1 := m3 k hk g.1 g.2 hne
    have g2 := m4 k hk g.1 g.2 hne
    by_cases c1 : k.1 < d.1
    · exact g1 c1 (by omega)
    · exact g2 (by omega) (by omega)
theorem more_front {n : Nat} {ds : List Dg} {d k : Dg} (h : MoreD n ds d k) : pcs n (ds ++ [d]) k = (pcs n ds k).filter fun v => decide (v ≤ d.1 ∨ d.2 ≤ v) := by
  have e := h.enc
  refine sorted_ext (pcs_sorted ..) ((pcs_sorted ..).filter _) fun v => ?_
  rw [List.mem_filter, pcs_mem, pcs_mem, decide_eq_true_eq]
  constructor
  · rintro ⟨h1, h2, h3⟩
    refine ⟨⟨h1, h2, fun d hd => h3 d (by simp [hd])⟩, ?_⟩
    have : ¬ (d.1 < v ∧ v < d.2) := fun ⟨x, y⟩ => h3 d (by simp) e.1 e.2.2.1 e.2.2.2 x y
    omega
  · rintro ⟨⟨h1, h2, h3⟩, h4⟩
    refine ⟨h1, h2, fun f hf => ?_⟩
    rcases List.mem_append.1 hf with hf | hf
    · exact h3 f hf
    · rw [List.mem_singleton] at hf
      subst hf
      intro _ _ _ g4 g5
      omega
theorem more_mid {n : Nat} {ds : List Dg} {d k : Dg} (h : MoreD n ds d k) : pcs n (ds ++ [d]) d = (pcs n ds k).filter fun v => decide (d.1 ≤ v ∧ v ≤ d.2) := by
  have e := h.enc
  have m1 := (pcs_mem.1 h.lo).2.2
  have m2 := (pcs_mem.1 h.hi).2.2
  refine sorted_ext (pcs_sorted ..) ((pcs_sorted ..).filter _) fun v => ?_
  rw [List.mem_filter, pcs_mem, pcs_mem, decide_eq_true_eq]
  constructor
  · rintro ⟨h1, h2, h3⟩
    refine ⟨⟨h1, by omega, fun f hf g1 g2 g3 g4 g5 => ?_⟩, h2⟩
    have := h.ap (e := f) (by simp [hf])
    have n1 : f ≠ k → ¬ (f.1 < d.1 ∧ d.1 < f.2) := fun g ⟨x, y⟩ => m1 f hf (by omega) (by omega) g x y
    have n2 : f ≠ k → ¬ (f.1 < d.2 ∧ d.2 < f.2) := fun g ⟨x, y⟩ => m2 f hf (by omega) (by omega) g x y
    have n1 := n1 g3
    have n2 := n2 g3
    by_cases c : d.1 ≤ f.1 ∧ f.2 ≤ d.2
    · by_cases c2 : f = d
      · subst c2
        exact ((List.pairwise_append.1 h.cut.2).2.2 f hf f (by simp)).1 rfl
      · exact h3 f (by simp [hf]) c.1 c.2 c2 g4 g5
    · omega
  · rintro ⟨⟨h1, h2, h3⟩, h4⟩
    refine ⟨h1, h4, fun f hf g1 g2 g3 g4 g5 => ?_⟩
    rcases List.mem_append.1 hf with hf | hf
    · refine h3 f hf (by omega) (by omega) (fun hk => ?_) g4 g5
      subst hk
      exact g3 (Prod.ext (by omega) (by omega))
    · rw [List.mem_singleton] at hf
      exact g3 hf
theorem more_else {n : Nat} {ds : List Dg} {d k l : Dg} (h : MoreD n ds d k) (hl : l ∈ wholeD n :: ds) (hne : l ≠ k) : pcs n (ds ++ [d]) l = pcs n ds l := by
  have e := h.enc
  have hd := h.cut.1 d (by simp)
  refine sorted_ext (pcs_sorted ..) (pcs_sorted ..) fun v => ?_
  rw [pcs_mem, pcs_mem]
  constructor
  · rintro ⟨h1, h2, h3⟩
    exact ⟨h1, h2, fun d hd => h3 d (by simp [hd])⟩
  · rintro ⟨h1, h2, h3⟩
    refine ⟨h1, h2, fun f hf g1 g2 g3 g4 g5 => ?_⟩
    rcases List.mem_append.1 hf with hf | hf
    · exact h3 f hf g1 g2 g3 g4 g5
    · rw [List.mem_singleton] at hf
      subst hf
      apply hne
      refine more_unique ⟨h.cut, hl, pcs_mem.2 ⟨by omega, by omega, fun g hg i1 i2 i3 i4 i5 => ?_⟩, pcs_mem.2 ⟨by omega, by omega, fun g hg i1 i2 i3 i4 i5 => ?_⟩⟩ h
      · have a := h.ap (e := g) (by simp [hg])
        exact h3 g hg i1 i2 i3 (by omega) (by omega)
      · have a := h.ap (e := g) (by simp [hg])
        exact h3 g hg i1 i2 i3 (by omega) (by omega)
/-- The program's step: the first piece that has both corners is cut in two. -/
def splitD (d : Dg) : List (List Int) → List (List Int)
  | [] => []
  | p :: t => if d.1 ∈ p ∧ d.2 ∈ p then p.filter (fun v => decide (v ≤ d.1 ∨ d.2 ≤ v)) :: (t ++ [p.filter fun v => decide (d.1 ≤ v ∧ v ≤ d.2)]) else p :: splitD d t
theorem splitD_at (d : Dg) : ∀ (out : List (List Int)), (∃ p ∈ out, d.1 ∈ p ∧ d.2 ∈ p) → ∃ l p r, out = l ++ p :: r ∧ d.1 ∈ p ∧ d.2 ∈ p ∧ splitD d out = l ++ p.filter (fun v => decide (v ≤ d.1 ∨ d.2 ≤ v)) :: (r ++ [p.filter fun v => decide (d.1 ≤ v ∧ v ≤ d.2)])
  | [], h => by obtain ⟨p, hp, _⟩ := h; cases hp
  | q :: t, h => by
    by_cases c : d.1 ∈ q ∧ d.2 ∈ q
    · exact ⟨[], q, t, rfl, c.1, c.2, by rw [splitD, if_pos c]; rfl⟩
    · obtain ⟨p, hp, h1, h2⟩ := h
      have hp : p ∈ t := by
        rcases List.mem_cons.1 hp with rfl | hp
        · exact absurd ⟨h1, h2⟩ c
        · exact hp
      obtain ⟨l, p, r, e, i1, i2, e2⟩ := splitD_at d t ⟨p, hp, h1, h2⟩
      exact ⟨q :: l, p, r, by rw [e]; rfl, i1, i2, by rw [splitD, if_neg c, e2]; rfl⟩
theorem split_perm {n : Nat} {ds : List Dg} {d : Dg} (h : CutD n (ds ++ [d])) {out : List (List Int)} (ho : out.Perm ((wholeD n :: ds).map (pcs n ds))) :
    (splitD d out).Perm ((wholeD n :: (ds ++ [d])).map (pcs n (ds ++ [d]))) := by
  obtain ⟨k, hk⟩ := more_exists h
  have hmem : pcs n ds k ∈ out := ho.mem_iff.2 (List.mem_map_of_mem hk.key)
  obtain ⟨l, p, r, e, h1, h2, e2⟩ := splitD_at d out ⟨_, hmem, hk.lo, hk.hi⟩
  have hp : p = pcs n ds k := by
    have : p ∈ (wholeD n :: ds).map (pcs n ds) := ho.mem_iff.1 (by rw [e]; simp)
    obtain ⟨k', hk', rfl⟩ := List.mem_map.1 this
    rw [more_unique ⟨h, hk', h1, h2⟩ hk]
  obtain ⟨m1, m2, em⟩ := List.append_of_mem hk.key
  have nd := h.front.nodup
  rw [em] at nd
  have els : ∀ l ∈ m1 ++ m2, pcs n (ds ++ [d]) l = pcs n ds l := fun l hl => by
    refine more_else hk ?_ ?_
    · rw [em]; simp only [List.mem_append, List.mem_cons] at hl ⊢; rcases hl with hl | hl <;> simp [hl]
    · rintro rfl
      have := (List.perm_middle (a := l) (l₁ := m1) (l₂ := m2)).nodup_iff.1 nd
      exact (List.nodup_cons.1 this).1 hl
  have eg : wholeD n :: (ds ++ [d]) = (m1 ++ k :: m2) ++ [d] := by rw [← em]; rfl
  rw [e2, hp, ← more_front hk, ← more_mid hk, eg]
  have ho' : (l ++ r).Perm ((m1 ++ m2).map (pcs n ds)) := by
    rw [e, hp, em] at ho
    rw [List.map_append, List.map_cons] at ho
    have := (List.perm_middle.symm.trans ho).trans List.perm_middle
    rw [List.map_append]
    exact (List.perm_cons _).1 this
  have hmap : (m1 ++ m2).map (pcs n ds) = (m1 ++ m2).map (pcs n (ds ++ [d])) := List.map_congr_left fun l hl => (els l hl).symm
  rw [hmap] at ho'
  have s1 : (l ++ pcs n (ds ++ [d]) k :: (r ++ [pcs n (ds ++ [d]) d])).Perm (pcs n (ds ++ [d]) k :: pcs n (ds ++ [d]) d :: (l ++ r)) := by
    refine List.perm_middle.trans (List.Perm.cons _ ?_)
    rw [← List.append_assoc]
    exact List.perm_append_singleton _ _
  refine s1.trans ?_
  rw [List.map_append, List.map_append, List.map_cons]
  have s2 : (m1.map (pcs n (ds ++ [d])) ++ pcs n (ds ++ [d]) k :: m2.map (pcs n (ds ++ [d])) ++ [d].map (pcs n (ds ++ [d]))).Perm (pcs n (ds ++ [d]) k :: pcs n (ds ++ [d]) d :: (m1 ++ m2).map (pcs n (ds ++ [d]))) := by
    rw [List.append_assoc, List.cons_append]
    refine List.perm_middle.trans (List.Perm.cons _ ?_)
    rw [← List.append_assoc, List.map_append]
    exact List.perm_append_singleton _ _
  exact ((ho'.cons _).cons _).trans s2.symm
def joinD (n : Nat) (ds : List Dg) (a b : Int) : Bool := decide (b - a = 1) || (decide (b - a = (n : Int) - 1) || decide ((a, b) ∈ ds))
theorem joinD_iff {n : Nat} {ds : List Dg} {a b : Int} : joinD n ds a b = true ↔ b - a = 1 ∨ b - a = (n : Int) - 1 ∨ (a, b) ∈ ds := by
  unfold joinD
  simp only [Bool.or_eq_true, decide_eq_true_eq]
theorem key_low {n : Nat} {ds : List Dg} (h : CutD n ds) (hn : 3 ≤ n) {k : Dg} (hk : k ∈ wholeD n :: ds) : 0 ≤ k.1 ∧ k.1 + 1 < k.2 ∧ k.2 < (n : Int) := by
  rcases List.mem_cons.1 hk with rfl | hk
  · simp only [wholeD]; omega
  · have := h.1 k hk; omega
theorem key_ends {n : Nat} {ds : List Dg} (h : CutD n ds) (hn : 3 ≤ n) {k : Dg} (hk : k ∈ wholeD n :: ds) : k.1 ∈ pcs n ds k ∧ k.2 ∈ pcs n ds k := by
  have := key_low h hn hk
  constructor
  · rw [pcs_mem]; exact ⟨by omega, by omega, fun d hd a b c e f => by omega⟩
  · rw [pcs_mem]; exact ⟨by omega, by omega, fun d hd a b c e f => by omega⟩
/-- The next corner of a piece. -/
theorem next_corner {n : Nat} {ds : List Dg} (h : CutD n ds) (hn : 3 ≤ n) {k : Dg} (hk : k ∈ wholeD n :: ds) {i c : Int} (hi : i ∈ pcs n ds k) (h1 : i < c) (h2 : c ≤ k.2) (hj : joinD n ds i c = true) (hne : (i, c) ≠ k)
    (hm : ∀ c', c < c' → c' ≤ k.2 → (i, c') ≠ k → joinD n ds i c' = false) : c ∈ pcs n ds k ∧ ∀ v, i < v → v < c → v ∉ pcs n ds k := by
  have hlow := key_low h hn hk
  obtain ⟨i1, i2, i3⟩ := pcs_mem.1 hi
  have hin : c ≠ i + 1 → (i, c) ∈ ds := fun hc => by
    rcases joinD_iff.1 hj with g | g | g
    · omega
    · exfalso
      rcases List.mem_cons.1 hk with rfl | hk
      · simp only [wholeD] at *
        exact hne (Prod.ext (by simp only; omega) (by simp only; omega))
      · have := (h.1 k hk).2.2.2
        exact this (Prod.ext (by simp only [wholeD]; omega) (by simp only [wholeD]; omega))
    · exact g
  constructor
  · rw [pcs_mem]
    refine ⟨by omega, by omega, fun e he g1 g2 g3 g4 g5 => ?_⟩
    have u := i3 e he g1 g2 g3
    by_cases c1 : e.1 < i
    · exact u c1 (by omega)
    · by_cases c2 : e.1 = i
      · have := hm e.2 g5 g2 (fun hh => g3 (by rw [← hh, ← c2]))
        rw [← Bool.not_eq_true] at this
        exact this (joinD_iff.2 (.inr (.inr (by rw [← c2]; exact he))))
      · have := h.apart (d := (i, c)) (e := e) (by simp [hin (by omega)]) (by simp [he])
        simp only at this
        omega
  · intro v hv1 hv2 hv
    have hd := hin (by omega)
    exact (pcs_mem.1 hv).2.2 (i, c) hd (by simp only; omega) (by simp only; omega) hne hv1 hv2
theorem after_corner {n : Nat} {ds : List Dg} {k : Dg} {i c : Int} (h1 : i < c) (hc : c ∈ pcs n ds k) (hno : ∀ v, i < v → v < c → v ∉ pcs n ds k) :
    ((pcs n ds k).filter fun v => decide (i < v)) = c :: (pcs n ds k).filter fun v => decide (c < v) := by
  refine sorted_ext ((pcs_sorted ..).filter _) ?_ fun v => ?_
  · rw [List.pairwise_cons]
    exact ⟨fun v hv => by rw [List.mem_filter, decide_eq_true_eq] at hv; exact hv.2, (pcs_sorted ..).filter _⟩
  · rw [List.mem_filter, List.mem_cons, List.mem_filter, decide_eq_true_eq, decide_eq_true_eq]
    constructor
    · rintro ⟨g1, g2⟩
      by_cases e : v = c
      · exact .inl e
      · by_cases l : v < c
        · exact absurd g1 (hno v g2 l)
        · exact .inr ⟨g1, by omega⟩
    · rintro (rfl | ⟨g1, g2⟩)
      · exact ⟨hc, h1⟩
      · exact ⟨g1, by omega⟩
theorem pcs_first {n : Nat} {ds : List Dg} (h : CutD n ds) (hn : 3 ≤ n) {k : Dg} (hk : k ∈ wholeD n :: ds) : pcs n ds k = k.1 :: (pcs n ds k).filter fun v => decide (k.1 < v) := by
  have he := (key_ends h hn hk).1
  refine sorted_ext (pcs_sorted ..) ?_ fun v => ?_
  · rw [List.pairwise_cons]
    exact ⟨fun v hv => by rw [List.mem_filter, decide_eq_true_eq] at hv; exact hv.2, (pcs_sorted ..).filter _⟩
  · rw [List.mem_cons, List.mem_filter, decide_eq_true_eq]
    constructor
    · intro hv
      have := (pcs_mem.1 hv).2.1
      by_cases e : v = k.1
      · exact .inl e
      · exact .inr ⟨hv, by omega⟩
    · rintro (rfl | ⟨g1, _⟩)
      · exact he
      · exact g1
theorem pcs_last (n : Nat) (ds : List Dg) (k : Dg) : ((pcs n ds k).filter fun v => decide (k.2 < v)) = [] := by
  rw [List.filter_eq_nil_iff]
  intro v hv
  have := (pcs_mem.1 hv).2.1
  rw [decide_eq_true_eq]; omega
/-- The greatest corner that one is joined with. -/
theorem next_exists {n : Nat} {ds : List Dg} {k : Dg} {i : Int} (hw : k.1 + 1 < k.2) (h1 : i < k.2) :
    ∃ c, i < c ∧ c ≤ k.2 ∧ joinD n ds i c = true ∧ (i, c) ≠ k ∧ ∀ c', c < c' → c' ≤ k.2 → (i, c') ≠ k → joinD n ds i c' = false := by
  have key : ∀ (m : Nat) (t : Int), t = i + 1 + (m : Int) → t ≤ k.2 → (∀ c', t < c' → c' ≤ k.2 → (i, c') ≠ k → joinD n ds i c' = false) →
      ∃ c, i < c ∧ c ≤ k.2 ∧ joinD n ds i c = true ∧ (i, c) ≠ k ∧ ∀ c', c < c' → c' ≤ k.2 → (i, c') ≠ k → joinD n ds i c' = false := by
    intro m
    induction m with
    | zero =>
      intro t ht h2 hm
      refine ⟨t, by omega, h2, joinD_iff.2 (.inl (by omega)), fun e => ?_, hm⟩
      rw [← e] at hw
      simp only at hw
      omega
    | succ m ih =>
      intro t ht h2 hm
      by_cases g : joinD n ds i t = true ∧ (i, t) ≠ k
      · exact ⟨t, by omega, h2, g.1, g.2, hm⟩
      · refine ih (t - 1) (by omega) (by omega) fun c' hc1 hc2 hc3 => ?_
        by_cases e : c' = t
        · subst e
          rw [← Bool.not_eq_true]
          exact fun hj => g ⟨hj, hc3⟩
        · exact hm c' (by omega) hc2 hc3
  exact key (k.2 - i - 1).toNat k.2 (by omega) (by omega) fun c' a b => by omega
theorem pcs_len {n : Nat} {ds : List Dg} (h : CutD n ds) (hn : 3 ≤ n) {k : Dg} (hk : k ∈ wholeD n :: ds) : 3 ≤ (pcs n ds k).length ∧ (pcs n ds k).length ≤ n := by
  have hlow := key_low h hn hk
  have hends := key_ends h hn hk
  obtain ⟨c, c1, c2, c3, c4, c5⟩ := next_exists (n := n) (ds := ds) (k := k) (i := k.1) hlow.2.1 (by omega)
  obtain ⟨g1, g2⟩ := next_corner h hn hk hends.1 c1 c2 c3 c4 c5
  have hc : c < k.2 := by
    apply Classical.byContradiction
    intro hh
    exact c4 (Prod.ext rfl (by simp only; omega))
  constructor
  · rw [pcs_first h hn hk, after_corner c1 g1 g2]
    have : k.2 ∈ (pcs n ds k).filter fun v => decide (c < v) := List.mem_filter.2 ⟨hends.2, decide_eq_true hc⟩
    have := List.length_pos_of_mem this
    simp only [List.length_cons]
    omega
  · have := List.length_filter_le (fun v => decide (k.1 ≤ v ∧ v ≤ k.2) && !covD ds k v) (nameL n)
    rw [nameL_length] at this
    exact this
/-- The reference's pieces, as they come. -/
def keysOf (n : Nat) (ds : List Dg) (a : Nat) : List Dg := ((List.range n).filter fun b => decide (a + 1 < b) && joinD n ds (a : Int) (b : Int)).map fun (b : Nat) => ((a : Int), (b : Int))
def specP (n : Nat) (ds : List Dg) : List (List Int) := ((List.range n).flatMap (keysOf n ds)).map (pcs n ds)
theorem keysOf_mem {n : Nat} {ds : List Dg} {a : Nat} {k : Dg} : k ∈ keysOf n ds a ↔ k.1 = (a : Int) ∧ (a : Int) + 1 < k.2 ∧ k.2 < (n : Int) ∧ joinD n ds k.1 k.2 = true := by
  unfold keysOf
  rw [List.mem_map]
  constructor
  · rintro ⟨b, hb, rfl⟩
    rw [List.mem_filter, List.mem_range, Bool.and_eq_true, decide_eq_true_eq] at hb
    exact ⟨rfl, by simp only; omega, by simp only; omega, hb.2.2⟩
  · rintro ⟨h1, h2, h3, h4⟩
    refine ⟨k.2.toNat, ?_, Prod.ext h1.symm (by simp only; omega)⟩
    rw [List.mem_filter, List.mem_range, Bool.and_eq_true, decide_eq_true_eq]
    refine ⟨by omega, by omega, ?_⟩
    rw [Int.toNat_of_nonneg (by omega), ← h1]
    exact h4
theorem specP_perm {n : Nat} {ds : List Dg} (h : CutD n ds) (hn : 3 ≤ n) : (specP n ds).Perm ((wholeD n :: ds).map (pcs n ds)) := by
  unfold specP
  refine List.Perm.map _ ((List.perm_ext_iff_of_nodup ?_ h.nodup).2 fun k => ?_)
  · show List.Pairwise _ _
    rw [List.pairwise_flatMap]
    refine ⟨fun a _ => ?_, ?_⟩
    · unfold keysOf
      rw [List.pairwise_map]
      refine (List.nodup_range.filter _).imp fun {x y} hxy e => hxy ?_
      have := congrArg Prod.snd e
      simp only at this
      omega
    · refine List.nodup_range.imp fun {x y} hxy p hp q hq e => hxy ?_
      have h1 := (keysOf_mem.1 hp).1
      have h2 := (keysOf_mem.1 hq).1
      subst e
      omega
  · rw [List.mem_flatMap]
    constructor
    · rintro ⟨a, ha, hk⟩
      obtain ⟨h1, h2, h3, h4⟩ := keysOf_mem.1 hk
      rw [List.mem_cons]
      rcases joinD_iff.1 h4 with g | g | g
      · omega
      · exact .inl (Prod.ext (by simp only [wholeD]; omega) (by simp only [wholeD]; omega))
      · exact .inr g
    · intro hk
      have := key_low h hn hk
      refine ⟨k.1.toNat, List.mem_range.2 (by omega), keysOf_mem.2 ⟨by omega, by omega, by omega, joinD_iff.2 ?_⟩⟩
      rcases List.mem_cons.1 hk with rfl | hk
      · exact .inr (.inl (by simp only [wholeD]; omega))
      · exact .inr (.inr hk)
/-- The program's pieces, as they come. -/
def implP (n : Nat) (ds : List Dg) : List (List Int) := ds.foldl (fun out d => splitD d out) [nameL n]
theorem implP_perm (n : Nat) (hn : 3 ≤ n) (ds : List Dg) (h : CutD n ds) : (implP n ds).Perm ((wholeD n :: ds).map (pcs n ds)) := by
  have key : ∀ (es ds : List Dg) (out : List (List Int)), CutD n (ds ++ es) → out.Perm ((wholeD n :: ds).map (pcs n ds)) → (es.foldl (fun out d => splitD d out) out).Perm ((wholeD n :: (ds ++ es)).map (pcs n (ds ++ es))) := by
    intro es
    induction es with
    | nil => intro ds out _ ho; simpa using ho
    | cons d es ih =>
      intro ds out hc ho
      have e : ds ++ d :: es = (ds ++ [d]) ++ es := by simp
      rw [e] at hc ⊢
      exact ih (ds ++ [d]) (splitD d out) hc (split_perm hc.front ho)
  have := key ds [] [nameL n] (by simpa using h) (by
    have : pcs n [] (wholeD n) = nameL n := by
      unfold pcs covD wholeD
      rw [List.filter_eq_self]
      intro v hv
      have := nameL_mem hv
      simp; omega
    simp [this])
  simpa [implP] using this
theorem pieces_same {n : Nat} {ds : List Dg} (hn : 3 ≤ n) (h : CutD n ds) : (implP n ds).Perm (specP n ds) := (implP_perm n hn ds h).trans (specP_perm h hn).symm
theorem implP_len {n : Nat} {ds : List Dg} (hn : 3 ≤ n) (h : CutD n ds) {p : List Int} (hp : p ∈ implP n ds) : 3 ≤ p.length ∧ p.length ≤ n := by
  obtain ⟨k, hk, rfl⟩ := List.mem_map.1 ((implP_perm n hn ds h).mem_iff.1 hp)
  exact pcs_len h hn hk
theorem implP_count {n : Nat} {ds : List Dg} (hn : 3 ≤ n) (h : CutD n ds) : (implP n ds).length = ds.length + 1 := by
  have := (implP_perm n hn ds h).length_eq
  simpa using this



theorem bad_iff (n : Int) (ds : List Dg) : (!(List.range ds.length).any (badT n ds)) = true ↔ (∀ d ∈ ds, inDg n d = true) ∧ ds.Pairwise (fun d e => ltD d e = true ∧ crossD e d = false) := by
  rw [Bool.not_eq_true', List.any_eq_false]
  simp only [List.mem_range, badT, Bool.or_eq_true, Bool.not_eq_true', Bool.and_eq_true, decide_eq_true_eq, not_or, not_and, Bool.not_eq_false, Bool.not_eq_true]
  have ltT : ∀ {a b c : Dg}, ltD a b = true → ltD b c = true → ltD a c = true := by
    intro a b c h1 h2; rw [ltD_iff] at *; omega
  constructor
  · intro h
    refine ⟨fun d hd => ?_, ?_⟩
    · obtain ⟨k, hk, e⟩ := List.getElem_of_mem hd
      have := (h k hk).1.1
      rwa [gD_eq hk, e] at this
    · have up : ∀ m p, p + m + 1 < ds.length → ltD (gD ds p) (gD ds (p + m + 1)) = true := by
        intro m
        induction m with
        | zero => intro p hp; have := (h (p + 1) hp).1.2 (by omega); simpa using this
        | succ m ih =>
          intro p hp
          have := (h (p + m + 1 + 1) (by omega)).1.2 (by omega)
          rw [show p + m + 1 + 1 - 1 = p + m + 1 by omega] at this
          have e2 := ltT (ih p (by omega)) this
          rwa [show p + (m + 1) + 1 = p + m + 1 + 1 by omega]
      rw [List.pairwise_iff_getElem]
      intro p q hp hq hpq
      have h2' := up (q - p - 1) p (by omega)
      rw [show p + (q - p - 1) + 1 = q by omega, gD_eq hp, gD_eq hq] at h2'
      refine ⟨h2', ?_⟩
      have := (h q hq).2
      rw [List.any_eq_false] at this
      have := this ds[p] (List.mem_take_iff_getElem.2 ⟨p, by omega, rfl⟩)
      rw [gD_eq hq] at this
      simpa using this
  · rintro ⟨g1, g2⟩ k hk
    rw [List.pairwise_iff_getElem] at g2
    refine ⟨⟨by rw [gD_eq hk]; exact g1 _ (List.getElem_mem hk), fun hk0 => ?_⟩, ?_⟩
    · rw [gD_eq hk, gD_eq (show k - 1 < ds.length by omega)]
      exact (g2 (k - 1) k (by omega) hk (by omega)).1
    · rw [List.any_eq_false]
      intro e he
      obtain ⟨p, hp, e'⟩ := List.mem_take_iff_getElem.1 he
      have := (g2 p k (by omega) hk (by omega)).2
      rw [e', ← gD_eq hk] at this
      simpa using this
def isCut (n : Int) (ds : List Dg) : Bool := inB 3 12 n && decide ((ds.length : Int) ≤ n - 3) && !(List.range ds.length).any (badT n ds)
theorem isCut_cut {n : Int} {ds : List Dg} (h : isCut n ds = true) : ∃ k : Nat, n = (k : Int) ∧ 3 ≤ k ∧ k ≤ 12 ∧ ds.length + 3 ≤ k ∧ CutD k ds := by
  unfold isCut at h
  rw [Bool.and_eq_true, Bool.and_eq_true, inB_iff, decide_eq_true_eq, bad_iff] at h
  obtain ⟨⟨h1, h2⟩, h3, h4⟩ := h
  obtain ⟨k, rfl⟩ := Int.eq_ofNat_of_zero_le (show 0 ≤ n by omega)
  refine ⟨k, rfl, by omega, by omega, by omega, fun d hd => ?_, h4.imp fun {d e} hde => ⟨fun he => ?_, ?_⟩⟩
  · have := h3 d hd
    unfold inDg at this
    simp only [Bool.and_eq_true, inB_iff, decide_eq_true_eq, Bool.not_eq_true'] at this
    obtain ⟨⟨⟨g1, g2⟩, g3⟩, g4⟩ := this
    refine ⟨by omega, by omega, by omega, fun e => ?_⟩
    rw [e] at g4
    simp [wholeD] at g4
  · subst he
    have := ltD_iff.1 hde.1
    omega
  · rw [crossD_comm]; exact hde.2
theorem filter_mid (p : List Int) (f : Int → Bool) (i j : Nat) (hij : i ≤ j) (hj : j ≤ p.length) (h1 : ∀ x (h : x < p.length), x < i → f p[x] = false) (h2 : ∀ x (h : x < p.length), i ≤ x → x < j → f p[x] = true) (h3 : ∀ x (h : x < p.length), j ≤ x → f p[x] = false) :
    p.filter f = (p.drop i).take (j - i) := by
  have e : p.take i ++ ((p.drop i).take (j - i) ++ p.drop j) = p := by
    have : (p.drop i).drop (j - i) = p.drop j := by rw [List.drop_drop]; congr 1; omega
    rw [← this, List.take_append_drop, List.take_append_drop]
  have h := congrArg (List.filter f) e
  rw [List.filter_append, List.filter_append, List.filter_eq_nil_iff.2, List.filter_eq_self.2, List.filter_eq_nil_iff.2, List.nil_append, List.append_nil] at h
  · exact h.symm
  · intro v hv
    obtain ⟨x, hx, rfl⟩ := List.mem_drop_iff_getElem.1 hv
    rw [h3 (j + x) (by omega) (by omega)]; simp
  · intro v hv
    obtain ⟨x, hx, rfl⟩ := List.mem_take_iff_getElem.1 hv
    rw [List.getElem_drop]
    rw [List.length_drop] at hx
    exact h2 (i + x) (by omega) (by omega) (by omega)
  · intro v hv
    obtain ⟨x, hx, rfl⟩ := List.mem_take_iff_getElem.1 hv
    rw [h1 x (by omega) (by omega)]; simp
theorem filter_out (p : List Int) (f : Int → Bool) (i j : Nat) (hij : i ≤ j) (hj : j ≤ p.length) (h1 : ∀ x (h : x < p.length), x < i → f p[x] = true) (h2 : ∀ x (h : x < p.length), i ≤ x → x < j → f p[x] = false) (h3 : ∀ x (h : x < p.length), j ≤ x → f p[x] = true) :
    p.filter f = p.take i ++ p.drop j := by
  have e : p.take i ++ ((p.drop i).take (j - i) ++ p.drop j) = p := by
    have : (p.drop i).drop (j - i) = p.drop j := by rw [List.drop_drop]; congr 1; omega
    rw [← this, List.take_append_drop, List.take_append_drop]
  have h := congrArg (List.filter f) e
  rw [List.filter_append, List.filter_append, List.filter_eq_self.2, List.filter_eq_nil_iff.2, List.filter_eq_self.2, List.nil_append] at h
  · exact h.symm
  · intro v hv
    obtain ⟨x, hx, rfl⟩ := List.mem_drop_iff_getElem.1 hv
    exact h3 (j + x) (by omega) (by omega)
  · intro v hv
    obtain ⟨x, hx, rfl⟩ := List.mem_take_iff_getElem.1 hv
    rw [List.length_drop] at hx
    rw [List.getElem_drop, h2 (i + x) (by omega) (by omega) (by omega)]; simp
  · intro v hv
    obtain ⟨x, hx, rfl⟩ := List.mem_take_iff_getElem.1 hv
    exact h1 x (by omega) (by omega)
theorem sorted_lt {p : List Int} (hs : p.Pairwise (· < ·)) {i j : Nat} (hi : i < p.length) (hj : j < p.length) : p[i] < p[j] ↔ i < j := by
  have h := List.pairwise_iff_getElem.1 hs
  constructor
  · intro hlt
    rcases Nat.lt_trichotomy i j with c | c | c
    · exact c
    · subst c; omega
    · have := h j i hj hi c; omega
  · exact fun c => h i j hi hj c
theorem idxI_no {v : Int} {p : List Int} (h : v ∉ p) : idxI (fun x => v == x) p = -1 := by
  unfold idxI
  have : p.findIdx? (fun x => v == x) = none := by
    rw [List.findIdx?_eq_none_iff]
    intro x hx
    rw [beq_eq_false_iff_ne]
    rintro rfl
    exact h hx
  rw [this]
theorem idxI_yes {v : Int} {p : List Int} (h : v ∈ p) : ∃ i, ∃ hi : i < p.length, p[i] = v ∧ idxI (fun x => v == x) p = (i : Int) := by
  unfold idxI
  cases hf : p.findIdx? (fun x => v == x) with
  | none =>
    rw [List.findIdx?_eq_none_iff] at hf
    have := hf v h
    simp at this
  | some i =>
    obtain ⟨h1, h2, _⟩ := List.findIdx?_eq_some_iff_getElem.1 hf
    exact ⟨i, h1, (eq_of_beq h2).symm, rfl⟩


end Go.Proofs.W
