/- Functions of the program, walked, and what they compute. -/
import Derived.Test.YtbheicnppelllaaPzIds
set_option linter.unusedVariables false
set_option linter.unusedSimpArgs false
set_option maxRecDepth 100000
set_option maxHeartbeats 4000000
namespace Go.Proofs.W
open Go Go.Gm Go.Proofs
def iot (k : Int) (n : Nat) : List Int := (List.range n).map fun (i : Nat) => k + (i : Int)
theorem iot_len (k : Int) (n : Nat) : (iot k n).length = n := by simp [iot]
theorem iot_succ (k : Int) (n : Nat) : iot k (n + 1) = iot k n ++ [k + n] := by simp [iot, List.range_succ]
theorem iot_get (k : Int) {n i : Nat} (h : i < n) : (iot k n)[i]? = some (k + i) := by simp [iot, h]
theorem gcd_toNat_step {a b : Int} (ha : 0 ≤ a) (hb : 0 < b) : Nat.gcd b.toNat (Int.tmod a b).toNat = Nat.gcd a.toNat b.toNat ∧ 0 ≤ Int.tmod a b ∧ Int.tmod a b < b := by
  obtain ⟨m, rfl⟩ := Int.eq_ofNat_of_zero_le ha
  obtain ⟨n, rfl⟩ := Int.eq_ofNat_of_zero_le (Int.le_of_lt hb)
  have e : Int.tmod (m : Int) (n : Int) = ((m % n : Nat) : Int) := rfl
  rw [e]
  simp only [Int.toNat_natCast]
  refine ⟨?_, Int.natCast_nonneg _, ?_⟩
  · rw [Nat.gcd_comm m n, Nat.gcd_rec n m, Nat.gcd_comm]
  · have : n ≠ 0 := by omega
    exact Int.ofNat_lt.2 (Nat.mod_lt m (by omega))
def lowP (num den : Int) : Bool := inB 1 1000000 num && (inB 1 1000000 den && decide (Nat.gcd num.toNat den.toNat = 1))
def upQ (num den : Int) : Int := (num + den - 1) / den
theorem upQ_B {num den : Int} (hn : 1 ≤ num) (hd : 1 ≤ den) : 1 ≤ upQ num den ∧ upQ num den ≤ num ∧ num ≤ upQ num den * den ∧ upQ num den * den - num < den := by
  have h1 := Int.mul_ediv_add_emod (num + den - 1) den
  have h2 := Int.emod_nonneg (num + den - 1) (show den ≠ 0 by omega)
  have h3 := Int.emod_lt_of_pos (num + den - 1) (show 0 < den by omega)
  have h4 : 1 ≤ upQ num den := by
    unfold upQ
    exact (Int.le_ediv_iff_mul_le (by omega)).2 (by omega)
  have h5 : den * upQ num den = upQ num den * den := Int.mul_comm ..
  have h6 : upQ num den ≤ num := by
    unfold upQ
    refine Int.ediv_le_of_le_mul (by omega) ?_
    have : 0 ≤ (num - 1) * (den - 1) := Int.mul_nonneg (by omega) (by omega)
    rw [Int.sub_mul, Int.mul_sub] at this
    omega
  unfold upQ at *
  omega
def posT (l : List Int) : Bool := isTerms l && (decide (l ≠ []) && l.all (inB 1 30))
theorem isPz_len {l : List Int} (h : isPz l = true) : 3 ≤ l.length ∧ l.length ≤ 9 := by
  simp only [isPz, Bool.and_eq_true, inB_iff] at h
  omega
def fillG (l : List Int) (at' n : Int) : Bool × List Int := if isPz l && (inB 0 ((l.length : Int) - 1) at' && (inB 1 ((l.length : Int) - 2) n && decide (l[at'.toNat]? = some 0))) then (true, l.set at'.toNat n) else (false, [])
def openG (l : List Int) (at' : Int) : Bool × List Int := if isPz l && (inB 0 ((l.length : Int) - 1) at' && decide (l[at'.toNat]? ≠ some 0)) then (true, l.set at'.toNat 0) else (false, [])
theorem at_get0 {α : Type} (L : List α) (x : α) (t : List α) : (L ++ x :: t)[L.length]? = some x := by simp
theorem at_get1 {α : Type} (L : List α) (x y : α) (t : List α) : (L ++ x :: y :: t)[L.length + 1]? = some y := by
  rw [List.getElem?_append_right (by omega), show L.length + 1 - L.length = 1 by omega]; rfl
theorem at_get2 {α : Type} (L : List α) (x y z : α) (t : List α) : (L ++ x :: y :: z :: t)[L.length + 2]? = some z := by
  rw [List.getElem?_append_right (by omega), show L.length + 2 - L.length = 2 by omega]; rfl
theorem at_set0 {α : Type} (L : List α) (x v : α) (t : List α) : (L ++ x :: t).set L.length v = L ++ v :: t := by simp
theorem at_set1 {α : Type} (L : List α) (x y v : α) (t : List α) : (L ++ x :: y :: t).set (L.length + 1) v = L ++ x :: v :: t := by
  rw [List.set_append_right _ _ (by omega), show L.length + 1 - L.length = 1 by omega]; rfl
theorem at_set2 {α : Type} (L : List α) (x y z v : α) (t : List α) : (L ++ x :: y :: z :: t).set (L.length + 2) v = L ++ x :: y :: v :: t := by
  rw [List.set_append_right _ _ (by omega), show L.length + 2 - L.length = 2 by omega]; rfl
theorem at_take1 {α : Type} (L : List α) (x : α) (t : List α) : (L ++ x :: t).take (L.length + 1) = L ++ [x] := by
  rw [List.take_append, List.take_of_length_le (by omega), show L.length + 1 - L.length = 1 by omega]; rfl
theorem at_drop2 {α : Type} (L : List α) (x y : α) (t : List α) : (L ++ x :: y :: t).drop (L.length + 2) = t := by
  rw [List.drop_append, List.drop_of_length_le (by omega), show L.length + 2 - L.length = 2 by omega]; rfl
theorem at_split {α : Type} (l : List α) (k : Nat) (h : k + 2 < l.length) : ∃ L x m y R, l = L ++ x :: m :: y :: R ∧ L.length = k := by
  refine ⟨l.take k, l[k], l[k + 1], l[k + 2], l.drop (k + 3), ?_, by simp; omega⟩
  rw [← List.drop_eq_getElem_cons, ← List.drop_eq_getElem_cons, ← List.drop_eq_getElem_cons, List.take_append_drop]
theorem at_split1 {α : Type} (l : List α) (k : Nat) (h : k + 1 < l.length) : ∃ L x y R, l = L ++ x :: y :: R ∧ L.length = k := by
  refine ⟨l.take k, l[k], l[k + 1], l.drop (k + 2), ?_, by simp; omega⟩
  rw [← List.drop_eq_getElem_cons, ← List.drop_eq_getElem_cons, List.take_append_drop]
theorem at_drop1 {α : Type} (L : List α) (x : α) (t : List α) : (L ++ x :: t).drop (L.length + 1) = t := by
  rw [List.drop_append, List.drop_of_length_le (by omega), show L.length + 1 - L.length = 1 by omega]; rfl
theorem loop_listI {α β σ X : Type} {step : α → Option (α ⊕ β)} {xs : List X} (P : Nat → σ → Prop) (emb : Nat → σ → α) (body : σ → X → σ ⊕ β) (fin : σ → β)
    (hs : ∀ k s x, P k s → xs[k]? = some x → step (emb k s) = some (match body s x with | .inl s' => .inl (emb (k + 1) s') | .inr o => .inr o) ∧ ∀ s', body s x = .inl s' → P (k + 1) s')
    (he : ∀ s, P xs.length s → step (emb xs.length s) = some (.inr (fin s))) : ∀ k s, k ≤ xs.length → P k s → loopO step (emb k s) = some (forE body fin (xs.drop k) s) := by
  have key : ∀ n k s, n = xs.length - k → k ≤ xs.length → P k s → loopO step (emb k s) = some (forE body fin (xs.drop k) s) := by
    intro n
    induction n with
    | zero =>
      intro k s hn hk hP
      have : k = xs.length := by omega
      subst this
      rw [loopO_step, he _ hP, List.drop_length]
      rfl
    | succ n ih =>
      intro k s hn hk hP
      have hlt : k < xs.length := by omega
      obtain ⟨h1, h2⟩ := hs k s xs[k] hP (List.getElem?_eq_getElem hlt)
      rw [loopO_step, h1, List.drop_eq_getElem_cons hlt, forE_cons]
      cases hb : body s xs[k] with
      | inl s' => simp only []; exact ih (k + 1) s' (by omega) (by omega) (h2 s' hb)
      | inr o => rfl
  exact fun k s hk hP => key _ k s rfl hk hP
def pzCell (b : UInt8) : Option Int := if b.toNat = 46 then some 0 else if 49 ≤ b.toNat ∧ b.toNat ≤ 57 then some ((b.toNat : Int) - 48) else none
def pzRead : List UInt8 → Option (List Int)
  | [] => some []
  | b :: t => match pzCell b with
    | some z => (pzRead t).map (z :: ·)
    | none => none
theorem forE_pz {β : Type} (fin : List Int → β) (o : β) : ∀ (l : List UInt8) (acc : List Int), forE (fun acc b => match pzCell b with | some z => .inl (acc ++ [z]) | none => .inr o) fin l acc = match pzRead l with | some r => fin (acc ++ r) | none => o
  | [], acc => by simp [forE, pzRead]
  | b :: t, acc => by
    rw [forE_cons, pzRead]
    cases hc : pzCell b with
    | none => rfl
    | some z =>
      simp only []
      rw [forE_pz fin o t]
      cases pzRead t with
      | none => rfl
      | some r => simp
def pzRes (s : List UInt8) : Bool × List Int := if s.length > 9 then (false, []) else match pzRead s with
  | none => (false, [])
  | some r => if isPz r then (true, r) else (false, [])
theorem pzRead_len : ∀ {s : List UInt8} {r : List Int}, pzRead s = some r → r.length = s.length
  | [], r, h => by cases h; rfl
  | b :: t, r, h => by
    rw [pzRead] at h
    split at h
    · obtain ⟨r', h1, rfl⟩ := Option.map_eq_some_iff.1 h
      simp [pzRead_len h1]
    · cases h
theorem pzRes_len (s : List UInt8) : (pzRes s).2.length ≤ 9 := by
  unfold pzRes
  split
  · simp
  · split
    · simp
    · rename_i h
      have := pzRead_len h
      split
      · simp; omega
      · simp
theorem bytesI_get {s : List UInt8} {k : Nat} {b : UInt8} (h : s[k]? = some b) : (bytesI s)[k]? = some (b.toNat : Int) := by unfold bytesI; rw [List.getElem?_map, h]; rfl
theorem bytesI_len (s : List UInt8) : (bytesI s).length = s.length := by unfold bytesI; simp

def s_l1In_sh : FSh := ⟨[(.one (.si .i64)), (.one (.si .i64)), (.one (.si .i64))], []⟩

def s_l1In_fo : List FO := [⟨[(.one .sb)], []⟩]
noncomputable def s_l1In_t : (Int × Int × Int) → T Bool := fun (n, lo, hi) =>
  (.test (decide (n ≥ lo))
  (.ret (decide (n ≤ hi)))
  (.ret false))
noncomputable def s_l1In (v : (Int × Int × Int)) : Option Bool := (s_l1In_t v).run
noncomputable def s_l1In_E : TEnv := E0
theorem s_l1In_Eok : (s_l1In_E).OK := E0ok
noncomputable def s_l1In_told : Nat → Option SealT := fun id => none
theorem s_l1In_ok : FOK Try.prog n_s_l1In s_l1In_sh s_l1In_fo s_l1In :=
  fn_ok (E := s_l1In_E) (s_l1In_Eok) (told := s_l1In_told) (fl := []) (c := bodyOf fn_s_l1In) (s := s_l1In_sh) (l := s_l1In_fo) (tree := s_l1In_t) fnat_s_l1In (by kernel_rfl) (by kernel_rfl) (by kernel_rfl) (loopsOK_of (ls := []) (by kernel_rfl) trivial) (fun v => by kernel_rfl)

theorem s_l1In_eq (n low high : Int) : s_l1In (n, low, high) = some (inB low high n) := by
  simp only [s_l1In, s_l1In_t, T.run, ge_iff_le, decide_eq_true_eq, inB]
  by_cases h : low ≤ n <;> simp [h]


def s_l1All_sh : FSh := ⟨[(.one (.sl (.int .i64) false false)), (.one (.si .i64)), (.one (.si .i64))], []⟩

def s_l1All_L2_sh : LSh := ⟨(fun ex => match ex with | .norm => [(1, none), (2, none), (9, none), (10, none), (11, none)] | .exit i => if i = 0 then [] else [] | .ret => [(6, none)]), [(1, (.one (.si .i64))), (2, (.one (.si .i64))), (9, (.one (.sl (.int .i64) false false))), (10, (.one (.si .i64))), (11, (.one (.si .i64)))], [], [⟨.ret, [(6, (.one .sb))], []⟩, ⟨(.exit 0), [], []⟩], []⟩
noncomputable def s_l1All_L2_step : (Int × Int × List (Int) × Int × Int) → T ((Int × Int × List (Int) × Int × Int) ⊕ (Bool ⊕ Unit)) := fun (lo, hi, t9, t10, t11) =>
  (.test (decide (t11 < t10))
  (.test (decide ((0 ≤ t11) ∧ (t11 < ((List.length t9) : Int))))
   (.sub (t9[(Int.toNat t11)]?) fun z0 =>
    (.sub (s_l1In (z0, (lo, hi))) fun z1 =>
    (.test (! z1)
    (.ret (Sum.inr (Sum.inl false)))
    (.ret (Sum.inl (lo, (hi, (t9, (t10, (w64 (t11 + 1)))))))))))
   .fail)
  (.ret (Sum.inr (Sum.inr ()))))
noncomputable def s_l1All_L2 (v : (Int × Int × List (Int) × Int × Int)) : Option (Bool ⊕ Unit) := loopO (fun v => (s_l1All_L2_step v).run) v

def s_l1All_fo : List FO := [⟨[(.one .sb)], []⟩]
noncomputable def s_l1All_t : (List (Int) × Int × Int) → T Bool := fun (l, lo, hi) =>
  (.sub (s_l1All_L2 (lo, (hi, (l, (((List.length l) : Int), (0 : Int)))))) fun z0 =>
  (.test (Sum.isLeft z0)
  (.sub (Sum.getLeft? z0) fun z1 =>
   (.ret z1))
  (.sub (Sum.getRight? z0) fun z2 =>
   (.ret true))))
noncomputable def s_l1All (v : (List (Int) × Int × Int)) : Option Bool := (s_l1All_t v).run
noncomputable def s_l1All_E : TEnv := (E0.add1 n_s_l1In s_l1In_sh s_l1In_fo s_l1In)
theorem s_l1All_Eok : (s_l1All_E).OK := (E0ok.add1 s_l1In_ok)
noncomputable def s_l1All_told : Nat → Option SealT := fun id => if id = 2 then some (LSh.told s_l1All_L2_sh 0 (s_l1All_L2_step)) else none
theorem s_l1All_L2_ok : ToldOK Try.prog 0 (loopAt (bodyOf fn_s_l1All) [0]) (LSh.told s_l1All_L2_sh 0 (s_l1All_L2_step)) :=
  loop_ok (E := s_l1All_E) (s_l1All_Eok) (told := s_l1All_told) (l := s_l1All_L2_sh) (step := s_l1All_L2_step) (loopsOK_of (ls := []) (by kernel_rfl) trivial) (by kernel_rfl) (fun v => by kernel_rfl)
theorem s_l1All_ok : FOK Try.prog n_s_l1All s_l1All_sh s_l1All_fo s_l1All :=
  fn_ok (E := s_l1All_E) (s_l1All_Eok) (told := s_l1All_told) (fl := []) (c := bodyOf fn_s_l1All) (s := s_l1All_sh) (l := s_l1All_fo) (tree := s_l1All_t) fnat_s_l1All (by kernel_rfl) (by kernel_rfl) (by kernel_rfl) (loopsOK_of (ls := [loopAt (bodyOf fn_s_l1All) [0]]) (by kernel_rfl) ⟨.inr ⟨_, by kernel_rfl, s_l1All_L2_ok⟩, trivial⟩) (fun v => by kernel_rfl)

theorem s_l1All_eq (l : List Int) (lo hi : Int) (hl : l.length < 4611686018427387904) : s_l1All (l, lo, hi) = some (l.all (inB lo hi)) := by
  have h := loop_any (step := fun v => (s_l1All_L2_step v).run) (xs := l) (fun n => !inB lo hi n) (fun k => (lo, hi, l, (l.length : Int), (k : Int))) (.inl false) (.inr ())
    (fun k x hx => by
      have hk := getElem?_lt hx
      simp only [s_l1All_L2_step, T.run, s_l1In_eq, Option.bind_some, Int.toNat_natCast, hx]
      rw [w64_id (by omega) (by omega)]
      cases inB lo hi x <;> simp [hk])
    (by simp [s_l1All_L2_step, T.run])
  simp only [s_l1All, s_l1All_t, T.run, s_l1All_L2]
  simp only [Int.natCast_zero] at h
  rw [h, ← all_any]
  cases hb : l.any (fun n => !inB lo hi n) <;> simp


def s_pzGood_sh : FSh := ⟨[(.ag [(.sl (.int .i64) false false)])], []⟩

def s_pzGood_fo : List FO := [⟨[(.one .sb)], []⟩]
noncomputable def s_pzGood_t : List (Int) → T Bool := fun p_0 =>
  (.sub (s_l1In (((List.length p_0) : Int), ((3 : Int), (9 : Int)))) fun z0 =>
  (.test z0
  (.sub (s_l1All (p_0, ((0 : Int), (w64 (((List.length p_0) : Int) - 2))))) fun z1 =>
   (.ret z1))
  (.ret false)))
noncomputable def s_pzGood (v : List (Int)) : Option Bool := (s_pzGood_t v).run
noncomputable def s_pzGood_E : TEnv := ((E0.add1 n_s_l1In s_l1In_sh s_l1In_fo s_l1In).add1 n_s_l1All s_l1All_sh s_l1All_fo s_l1All)
theorem s_pzGood_Eok : (s_pzGood_E).OK := ((E0ok.add1 s_l1In_ok).add1 s_l1All_ok)
noncomputable def s_pzGood_told : Nat → Option SealT := fun id => none
theorem s_pzGood_ok : FOK Try.prog n_s_pzGood s_pzGood_sh s_pzGood_fo s_pzGood :=
  fn_ok (E := s_pzGood_E) (s_pzGood_Eok) (told := s_pzGood_told) (fl := []) (c := bodyOf fn_s_pzGood) (s := s_pzGood_sh) (l := s_pzGood_fo) (tree := s_pzGood_t) fnat_s_pzGood (by kernel_rfl) (by kernel_rfl) (by kernel_rfl) (loopsOK_of (ls := []) (by kernel_rfl) trivial) (fun v => by kernel_rfl)

theorem s_pzGood_eq (l : List Int) (hl : l.length < 4611686018427387904) : s_pzGood l = some (isPz l) := by
  simp only [s_pzGood, s_pzGood_t, T.run, s_l1In_eq, Option.bind_some, s_l1All_eq _ _ _ hl, isPz]
  rw [w64_id (by omega) (by omega)]
  cases inB 3 9 l.length <;> simp


def s_ParsePuzzle_sh : FSh := ⟨[(.one .ss)], []⟩

def s_ParsePuzzle_L5_sh : LSh := ⟨(fun ex => match ex with | .norm => [(0, none), (2, none), (4, none), (5, none)] | .exit i => if i = 0 then [(2, none), (4, none)] else [] | .ret => [(2, none), (3, none)]), [(0, (.one .ss)), (2, (.one (.pf 0 0 0))), (4, (.one (.pf 1 0 0))), (5, (.one (.si .i64)))], [(.rcd 0 [(.nl true true)]), (.rcd 0 [(.rw 2 0)]), (.row 0 (.int .i64))], [⟨.ret, [(2, (.one (.pf 0 0 0))), (3, (.one .sb))], [(.rcd 0 [(.nl true true)])]⟩, ⟨(.exit 0), [(2, (.one (.pf 0 0 0))), (4, (.one (.pf 1 0 0)))], [(.rcd 0 [(.nl true true)]), (.rcd 0 [(.rw 2 0)]), (.row 0 (.int .i64))]⟩], [(1, 0, (.int .i64))]⟩
noncomputable def s_ParsePuzzle_L5_step : ((List UInt8 × Unit × Unit × Int) × (Unit × Unit × List (Int))) → T (((List UInt8 × Unit × Unit × Int) × (Unit × Unit × List (Int))) ⊕ (((Unit × Bool) × Unit) ⊕ ((Unit × Unit) × (Unit × Unit × List (Int))))) := fun ((s, (), (), i), ((), (), p_r)) =>
  (.test (decide (i < ((List.length s) : Int)))
  (.test (decide ((0 ≤ i) ∧ (i < ((List.length s) : Int))))
   (.sub (s[(Int.toNat i)]?) fun z0 =>
    (.test (((UInt8.toNat z0) : Int) == 46)
    (.test true
     (.test (decide ((0 + (List.length p_r)) ≤ (List.length p_r)))
      (.test (decide ((2 * (((List.length p_r) + 1) * 9)) ≤ 140737488355328))
       (.test (decide ((0 = 0) ∧ (((List.length p_r) + 1) = (List.length ((win p_r 0 (List.length p_r)) ++ (win (List.set (List.replicate 1 (0 : Int)) 0 (0 : Int)) 0 1))))))
        (.ret (Sum.inl ((s, ((), ((), (w64 (i + 1))))), ((), ((), ((win p_r 0 (List.length p_r)) ++ (win (List.set (List.replicate 1 (0 : Int)) 0 (0 : Int)) 0 1)))))))
        .fail)
       .fail)
      .fail)
     .fail)
    (.test (decide ((0 ≤ i) ∧ (i < ((List.length s) : Int))))
     (.sub (s[(Int.toNat i)]?) fun z1 =>
      (.test (decide (((UInt8.toNat z1) : Int) ≥ 49))
      (.test (decide ((0 ≤ i) ∧ (i < ((List.length s) : Int))))
       (.sub (s[(Int.toNat i)]?) fun z2 =>
        (.test (decide (((UInt8.toNat z2) : Int) ≤ 57))
        (.test (decide ((0 ≤ i) ∧ (i < ((List.length s) : Int))))
         (.sub (s[(Int.toNat i)]?) fun z3 =>
          (.test (decide (1 ≤ (List.length (List.set (List.replicate 1 (0 : Int)) 0 (w64 (wu8 (((UInt8.toNat z3) : Int) - 48)))))))
          (.test (decide ((0 + (List.length p_r)) ≤ (List.length p_r)))
           (.test (decide ((2 * (((List.length p_r) + (List.length (win (List.set (List.replicate 1 (0 : Int)) 0 (w64 (wu8 (((UInt8.toNat z3) : Int) - 48)))) 0 1))) * 9)) ≤ 140737488355328))
            (.test (decide ((0 = 0) ∧ (((List.length p_r) + (List.length (win (List.set (List.replicate 1 (0 : Int)) 0 (w64 (wu8 (((UInt8.toNat z3) : Int) - 48)))) 0 1))) = (List.length ((win p_r 0 (List.length p_r)) ++ (win (List.set (List.replicate 1 (0 : Int)) 0 (w64 (wu8 (((UInt8.toNat z3) : Int) - 48)))) 0 1))))))
             (.ret (Sum.inl ((s, ((), ((), (w64 (i + 1))))), ((), ((), ((win p_r 0 (List.length p_r)) ++ (win (List.set (List.replicate 1 (0 : Int)) 0 (w64 (wu8 (((UInt8.toNat z3) : Int) - 48)))) 0 1)))))))
             .fail)
            .fail)
           .fail)
          .fail))
         .fail)
        (.ret (Sum.inr (Sum.inl (((), false), ()))))))
       .fail)
      (.ret (Sum.inr (Sum.inl (((), false), ()))))))
     .fail)))
   .fail)
  (.test (decide ((0 = 0) ∧ ((List.length p_r) = (List.length p_r))))
   (.ret (Sum.inr (Sum.inr (((), ()), ((), ((), p_r))))))
   .fail))
noncomputable def s_ParsePuzzle_L5 (v : ((List UInt8 × Unit × Unit × Int) × (Unit × Unit × List (Int)))) : Option (((Unit × Bool) × Unit) ⊕ ((Unit × Unit) × (Unit × Unit × List (Int)))) := loopO (fun v => (s_ParsePuzzle_L5_step v).run) v

def s_ParsePuzzle_w_fo : List FO := [⟨[(.ag [(.nl true true)]), (.one .sb)], []⟩, ⟨[(.ag [(.rw 0 0)]), (.one .sb)], [(.row 0 (.int .i64))]⟩]
noncomputable def s_ParsePuzzle_t : List UInt8 → T ((Unit × Bool) ⊕ ((Unit × Bool) × List (Int))) := fun s =>
  (.test (decide (((List.length s) : Int) > 9))
  (.ret (Sum.inl ((), false)))
  (.test true
   (.sub (s_ParsePuzzle_L5 ((s, ((), ((), (0 : Int)))), ((), ((), ([] : List (Int)))))) fun z0 =>
    (.test (Sum.isLeft z0)
    (.sub (Sum.getLeft? z0) fun z1 =>
     (.ret (Sum.inl ((), z1.1.2))))
    (.sub (Sum.getRight? z0) fun z2 =>
     (.test (decide ((0 + (List.length z2.2.2.2)) ≤ (List.length z2.2.2.2)))
     (.sub (s_pzGood (win z2.2.2.2 0 (List.length z2.2.2.2))) fun z3 =>
      (.test (! z3)
      (.ret (Sum.inl ((), false)))
      (.test (decide ((0 = 0) ∧ ((List.length z2.2.2.2) = (List.length z2.2.2.2))))
       (.ret (Sum.inr (((), true), z2.2.2.2)))
       .fail)))
     .fail))))
   .fail))
noncomputable def s_ParsePuzzle_w (v : List UInt8) : Option ((Unit × Bool) ⊕ ((Unit × Bool) × List (Int))) := (s_ParsePuzzle_t v).run
noncomputable def s_ParsePuzzle_E : TEnv := (E0.add1 n_s_pzGood s_pzGood_sh s_pzGood_fo s_pzGood)
theorem s_ParsePuzzle_Eok : (s_ParsePuzzle_E).OK := (E0ok.add1 s_pzGood_ok)
noncomputable def s_ParsePuzzle_told : Nat → Option SealT := fun id => if id = 5 then some (LSh.told s_ParsePuzzle_L5_sh 0 (s_ParsePuzzle_L5_step)) else none
theorem s_ParsePuzzle_L5_ok : ToldOK Try.prog 0 (loopAt (bodyOf fn_s_ParsePuzzle) [0]) (LSh.told s_ParsePuzzle_L5_sh 0 (s_ParsePuzzle_L5_step)) :=
  loop_ok (E := s_ParsePuzzle_E) (s_ParsePuzzle_Eok) (told := s_ParsePuzzle_told) (l := s_ParsePuzzle_L5_sh) (step := s_ParsePuzzle_L5_step) (loopsOK_of (ls := []) (by kernel_rfl) trivial) (by kernel_rfl) (fun v => by kernel_rfl)
theorem s_ParsePuzzle_w_ok : FOK Try.prog n_s_ParsePuzzle s_ParsePuzzle_sh s_ParsePuzzle_w_fo s_ParsePuzzle_w :=
  fn_ok (E := s_ParsePuzzle_E) (s_ParsePuzzle_Eok) (told := s_ParsePuzzle_told) (fl := []) (c := bodyOf fn_s_ParsePuzzle) (s := s_ParsePuzzle_sh) (l := s_ParsePuzzle_w_fo) (tree := s_ParsePuzzle_t) fnat_s_ParsePuzzle (by kernel_rfl) (by kernel_rfl) (by kernel_rfl) (loopsOK_of (ls := [loopAt (bodyOf fn_s_ParsePuzzle) [0]]) (by kernel_rfl) ⟨.inr ⟨_, by kernel_rfl, s_ParsePuzzle_L5_ok⟩, trivial⟩) (fun v => by kernel_rfl)
def s_ParsePuzzle_fo : List FO := [⟨[(.ag [(.rw 0 0)]), (.one .sb)], [(.row 0 (.int .i64))]⟩]
def s_ParsePuzzle_m : ((Unit × Bool) ⊕ ((Unit × Bool) × List (Int))) → ((Unit × Bool) × List (Int)) := fun o => match o with | (.inl a) => (a, []) | (.inr x) => x
noncomputable def s_ParsePuzzle (v : List UInt8) : Option ((Unit × Bool) × List (Int)) := (s_ParsePuzzle_w v).map s_ParsePuzzle_m
theorem s_ParsePuzzle_ok : FOK Try.prog n_s_ParsePuzzle s_ParsePuzzle_sh s_ParsePuzzle_fo s_ParsePuzzle :=
  FOK.own (l' := s_ParsePuzzle_fo) s_ParsePuzzle_w_ok s_ParsePuzzle_m [(.int .i64)] (by decide) (fun o => match o with | (.inl a) => .inr (by kernel_rfl) | (.inr x) => .inl (by kernel_rfl))

theorem s_ParsePuzzle_eq (s : List UInt8) : s_ParsePuzzle s = some (((), (pzRes s).1), (pzRes s).2) := by
  rw [s_ParsePuzzle, s_ParsePuzzle_w, s_ParsePuzzle_t, T.run_test]
  unfold pzRes
  by_cases hl : s.length > 9
  · rw [if_pos (by simp; omega), if_pos hl]; rfl
  · rw [if_neg (by simp; omega), if_neg hl]
    have h := loop_listI (step := fun v => (s_ParsePuzzle_L5_step v).run) (xs := s) (fun k (acc : List Int) => acc.length = k) (fun k acc => ((s, (), (), (k : Int)), ((), (), acc)))
      (fun acc b => match pzCell b with | some z => .inl (acc ++ [z]) | none => .inr (Sum.inl (((), false), ()))) (fun acc => Sum.inr (((), ()), ((), (), acc)))
      (by
        intro k acc b hk hb
        have hlt := getElem?_lt hb
        subst hk
        refine ⟨?_, fun s' h => ?_⟩
        · simp only [s_ParsePuzzle_L5_step, T.run, Int.toNat_natCast, hb, Option.bind_some, win_one, win_all, win_sing]
          rw [w64_id (z := (acc.length : Int) + 1) (by omega) (by omega)]
          have c1 : (acc.length : Int) < (s.length : Int) := by omega
          unfold pzCell
          by_cases h1 : b.toNat = 46
          · simp [h1, c1]; omega
          · have h1' : ¬ ((b.toNat : Int) = 46) := by omega
            by_cases h2 : 49 ≤ b.toNat ∧ b.toNat ≤ 57
            · have e1 : wu8 ((b.toNat : Int) - 48) = (b.toNat : Int) - 48 := by unfold wu8; rw [IntKind.wrap_u8]; omega
              have e2 : w64 ((b.toNat : Int) - 48) = (b.toNat : Int) - 48 := w64_id (by omega) (by omega)
              have h3 : (49 : Int) ≤ b.toNat := by omega
              have h4 : (b.toNat : Int) ≤ 57 := by omega
              simp [h1, h1', c1, e1, e2, h2, h3, h4, win_one]; omega
            · by_cases h3 : (49 : Int) ≤ b.toNat
              · have h4 : ¬ ((b.toNat : Int) ≤ 57) := by omega
                simp [h1, h1', c1, h2, h3, h4]
              · simp [h1, h1', c1, h2, h3]
        · cases hc : pzCell b with
          | some z => rw [hc] at h; cases h; simp
          | none => rw [hc] at h; cases h)
      (by intro acc hk; simp [s_ParsePuzzle_L5_step, T.run])
      0 [] (Nat.zero_le _) rfl
    rw [List.drop_zero, forE_pz] at h
    simp only [T.run, s_ParsePuzzle_L5]
    rw [show ((0 : Nat) : Int) = 0 from rfl] at h
    simp only [h, List.nil_append]
    cases hp : pzRead s with
    | none => simp [s_ParsePuzzle_m]
    | some r =>
      have hrl := pzRead_len hp
      have := s_pzGood_eq r (by omega)
      simp only [Option.bind_some, Sum.isLeft, Sum.getRight?, win_all, this]
      cases isPz r <;> simp [s_ParsePuzzle_m]


def i_within_sh : FSh := ⟨[(.one (.si .i64)), (.one (.si .i64)), (.one (.si .i64))], []⟩

def i_within_fo : List FO := [⟨[(.one .sb)], []⟩]
noncomputable def i_within_t : (Int × Int × Int) → T Bool := fun (n, low, high) =>
  (.test (decide (n ≥ low))
  (.ret (decide (n ≤ high)))
  (.ret false))
noncomputable def i_within (v : (Int × Int × Int)) : Option Bool := (i_within_t v).run
noncomputable def i_within_E : TEnv := E0
theorem i_within_Eok : (i_within_E).OK := E0ok
noncomputable def i_within_told : Nat → Option SealT := fun id => none
theorem i_within_ok : FOK Try.prog n_i_within i_within_sh i_within_fo i_within :=
  fn_ok (E := i_within_E) (i_within_Eok) (told := i_within_told) (fl := []) (c := bodyOf fn_i_within) (s := i_within_sh) (l := i_within_fo) (tree := i_within_t) fnat_i_within (by kernel_rfl) (by kernel_rfl) (by kernel_rfl) (loopsOK_of (ls := []) (by kernel_rfl) trivial) (fun v => by kernel_rfl)

theorem i_within_eq (n low high : Int) : i_within (n, low, high) = some (inB low high n) := by
  simp only [i_within, i_within_t, T.run, ge_iff_le, decide_eq_true_eq, inB]
  by_cases h : low ≤ n <;> simp [h]


def i_IsPuzzle_1_sh : FSh := ⟨[(.one (.si .i64)), (.one (.pf 0 0 0))], [(.rcd 0 [(.si .i64)])]⟩

def i_IsPuzzle_1_fo : List FO := [⟨[(.one .sb)], [(.rcd 0 [(.si .i64)])]⟩]
noncomputable def i_IsPuzzle_1_t : ((Int × Unit) × Int) → T (Bool × Int) := fun ((k, ()), t1_0) =>
  (.sub (i_within (k, ((0 : Int), (w64 (t1_0 - 2))))) fun z0 =>
  (.ret ((! z0), t1_0)))
noncomputable def i_IsPuzzle_1 (v : ((Int × Unit) × Int)) : Option (Bool × Int) := (i_IsPuzzle_1_t v).run
noncomputable def i_IsPuzzle_1_E : TEnv := (E0.add1 n_i_within i_within_sh i_within_fo i_within)
theorem i_IsPuzzle_1_Eok : (i_IsPuzzle_1_E).OK := (E0ok.add1 i_within_ok)
noncomputable def i_IsPuzzle_1_told : Nat → Option SealT := fun id => none
theorem i_IsPuzzle_1_ok : FOK Try.prog n_i_IsPuzzle_1 i_IsPuzzle_1_sh i_IsPuzzle_1_fo i_IsPuzzle_1 :=
  fn_ok (E := i_IsPuzzle_1_E) (i_IsPuzzle_1_Eok) (told := i_IsPuzzle_1_told) (fl := []) (c := bodyOf fn_i_IsPuzzle_1) (s := i_IsPuzzle_1_sh) (l := i_IsPuzzle_1_fo) (tree := i_IsPuzzle_1_t) fnat_i_IsPuzzle_1 (by kernel_rfl) (by kernel_rfl) (by kernel_rfl) (loopsOK_of (ls := []) (by kernel_rfl) trivial) (fun v => by kernel_rfl)

theorem i_IsPuzzle_1_eq (k c : Int) (h : 0 ≤ c) (h2 : c < 4611686018427387904) : i_IsPuzzle_1 ((k, ()), c) = some (!inB 0 (c - 2) k, c) := by
  simp only [i_IsPuzzle_1, i_IsPuzzle_1_t, T.run, i_within_eq, Option.bind_some]
  rw [w64_id (by omega) (by omega)]


def slices_IndexFunc_int__i_IsPuzzle_1_sh : FSh := ⟨[(.one (.sl (.int .i64) false false)), (.clo n_i_IsPuzzle_1 [(.one (.pf 0 0 0))])], [(.rcd 0 [(.si .i64)])]⟩

def slices_IndexFunc_int__i_IsPuzzle_1_L2_sh : LSh := ⟨(fun ex => match ex with | .norm => [(0, none), (1, none), (7, none), (8, none)] | .exit i => if i = 0 then [] else [] | .ret => [(4, none)]), [(0, (.one (.sl (.int .i64) false false))), (1, (.clo n_i_IsPuzzle_1 [(.one (.pf 0 0 0))])), (7, (.one (.si .i64))), (8, (.one (.si .i64)))], [(.rcd 0 [(.si .i64)])], [⟨.ret, [(4, (.one (.si .i64)))], [(.rcd 0 [(.si .i64)])]⟩, ⟨(.exit 0), [], [(.rcd 0 [(.si .i64)])]⟩], []⟩
noncomputable def slices_IndexFunc_int__i_IsPuzzle_1_L2_step : ((List (Int) × Unit × Int × Int) × Int) → T (((List (Int) × Unit × Int × Int) × Int) ⊕ ((Int × Int) ⊕ (Unit × Int))) := fun ((s, (), t7, t8), r0_0) =>
  (.test (decide (t8 < t7))
  (.test (decide ((0 ≤ t8) ∧ (t8 < ((List.length s) : Int))))
   (.sub (s[(Int.toNat t8)]?) fun z0 =>
    (.sub (i_IsPuzzle_1 ((z0, ()), r0_0)) fun z1 =>
    (.test z1.1
    (.ret (Sum.inr (Sum.inl (t8, z1.2))))
    (.ret (Sum.inl ((s, ((), (t7, (w64 (t8 + 1))))), z1.2))))))
   .fail)
  (.ret (Sum.inr (Sum.inr ((), r0_0)))))
noncomputable def slices_IndexFunc_int__i_IsPuzzle_1_L2 (v : ((List (Int) × Unit × Int × Int) × Int)) : Option ((Int × Int) ⊕ (Unit × Int)) := loopO (fun v => (slices_IndexFunc_int__i_IsPuzzle_1_L2_step v).run) v

def slices_IndexFunc_int__i_IsPuzzle_1_fo : List FO := [⟨[(.one (.si .i64))], [(.rcd 0 [(.si .i64)])]⟩]
noncomputable def slices_IndexFunc_int__i_IsPuzzle_1_t : ((List (Int) × Unit) × Int) → T (Int × Int) := fun ((s, ()), r0_0) =>
  (.sub (slices_IndexFunc_int__i_IsPuzzle_1_L2 ((s, ((), (((List.length s) : Int), (0 : Int)))), r0_0)) fun z0 =>
  (.test (Sum.isLeft z0)
  (.sub (Sum.getLeft? z0) fun z1 =>
   (.ret (z1.1, z1.2)))
  (.sub (Sum.getRight? z0) fun z2 =>
   (.ret ((-1), z2.2)))))
noncomputable def slices_IndexFunc_int__i_IsPuzzle_1 (v : ((List (Int) × Unit) × Int)) : Option (Int × Int) := (slices_IndexFunc_int__i_IsPuzzle_1_t v).run
noncomputable def slices_IndexFunc_int__i_IsPuzzle_1_E : TEnv := (E0.add1 n_i_IsPuzzle_1 i_IsPuzzle_1_sh i_IsPuzzle_1_fo i_IsPuzzle_1)
theorem slices_IndexFunc_int__i_IsPuzzle_1_Eok : (slices_IndexFunc_int__i_IsPuzzle_1_E).OK := (E0ok.add1 i_IsPuzzle_1_ok)
noncomputable def slices_IndexFunc_int__i_IsPuzzle_1_told : Nat → Option SealT := fun id => if id = 2 then some (LSh.told slices_IndexFunc_int__i_IsPuzzle_1_L2_sh 1 (slices_IndexFunc_int__i_IsPuzzle_1_L2_step)) else none
theorem slices_IndexFunc_int__i_IsPuzzle_1_L2_ok : ToldOK Try.prog 1 (loopAt (bodyOf fn_slices_IndexFunc_int) [0]) (LSh.told slices_IndexFunc_int__i_IsPuzzle_1_L2_sh 1 (slices_IndexFunc_int__i_IsPuzzle_1_L2_step)) :=
  loop_ok (E := slices_IndexFunc_int__i_IsPuzzle_1_E) (slices_IndexFunc_int__i_IsPuzzle_1_Eok) (told := slices_IndexFunc_int__i_IsPuzzle_1_told) (l := slices_IndexFunc_int__i_IsPuzzle_1_L2_sh) (step := slices_IndexFunc_int__i_IsPuzzle_1_L2_step) (loopsOK_of (ls := []) (by kernel_rfl) trivial) (by kernel_rfl) (fun v => by kernel_rfl)
theorem slices_IndexFunc_int__i_IsPuzzle_1_ok : FOK Try.prog n_slices_IndexFunc_int slices_IndexFunc_int__i_IsPuzzle_1_sh slices_IndexFunc_int__i_IsPuzzle_1_fo slices_IndexFunc_int__i_IsPuzzle_1 :=
  fn_ok (E := slices_IndexFunc_int__i_IsPuzzle_1_E) (slices_IndexFunc_int__i_IsPuzzle_1_Eok) (told := slices_IndexFunc_int__i_IsPuzzle_1_told) (fl := []) (c := bodyOf fn_slices_IndexFunc_int) (s := slices_IndexFunc_int__i_IsPuzzle_1_sh) (l := slices_IndexFunc_int__i_IsPuzzle_1_fo) (tree := slices_IndexFunc_int__i_IsPuzzle_1_t) fnat_slices_IndexFunc_int (by kernel_rfl) (by kernel_rfl) (by kernel_rfl) (loopsOK_of (ls := [loopAt (bodyOf fn_slices_IndexFunc_int) [0]]) (by kernel_rfl) ⟨.inr ⟨_, by kernel_rfl, slices_IndexFunc_int__i_IsPuzzle_1_L2_ok⟩, trivial⟩) (fun v => by kernel_rfl)

theorem slices_IndexFunc_int__i_IsPuzzle_1_eq (l : List Int) (c : Int) (hl : l.length < 4611686018427387904) (h : 0 ≤ c) (h2 : c < 4611686018427387904) : slices_IndexFunc_int__i_IsPuzzle_1 ((l, ()), c) = some (idxI (fun k => !inB 0 (c - 2) k) l, c) := by
  have h := loop_find (step := fun v => (slices_IndexFunc_int__i_IsPuzzle_1_L2_step v).run) (xs := l) (fun k => !inB 0 (c - 2) k) (fun k => ((l, (), (l.length : Int), (k : Int)), c)) (fun k => .inl ((k : Int), c)) (.inr ((), c))
    (fun k x hx => by
      have hk := getElem?_lt hx
      simp only [slices_IndexFunc_int__i_IsPuzzle_1_L2_step, T.run, i_IsPuzzle_1_eq _ _ h h2, Option.bind_some, Int.toNat_natCast, hx]
      rw [w64_id (by omega) (by omega)]
      cases inB 0 (c - 2) x <;> simp [hk])
    (by simp [slices_IndexFunc_int__i_IsPuzzle_1_L2_step, T.run])
  simp only [slices_IndexFunc_int__i_IsPuzzle_1, slices_IndexFunc_int__i_IsPuzzle_1_t, T.run, slices_IndexFunc_int__i_IsPuzzle_1_L2]
  simp only [Int.natCast_zero] at h
  rw [h, idxI]
  cases l.findIdx? (fun k => !inB 0 (c - 2) k) <;> simp


def slices_ContainsFunc_int__i_IsPuzzle_1_sh : FSh := ⟨[(.one (.sl (.int .i64) false false)), (.clo n_i_IsPuzzle_1 [(.one (.pf 0 0 0))])], [(.rcd 0 [(.si .i64)])]⟩

def slices_ContainsFunc_int__i_IsPuzzle_1_fo : List FO := [⟨[(.one .sb)], [(.rcd 0 [(.si .i64)])]⟩]
noncomputable def slices_ContainsFunc_int__i_IsPuzzle_1_t : ((List (Int) × Unit) × Int) → T (Bool × Int) := fun ((s, ()), r0_0) =>
  (.sub (slices_IndexFunc_int__i_IsPuzzle_1 ((s, ()), r0_0)) fun z0 =>
  (.ret ((decide (z0.1 ≥ 0)), z0.2)))
noncomputable def slices_ContainsFunc_int__i_IsPuzzle_1 (v : ((List (Int) × Unit) × Int)) : Option (Bool × Int) := (slices_ContainsFunc_int__i_IsPuzzle_1_t v).run
noncomputable def slices_ContainsFunc_int__i_IsPuzzle_1_E : TEnv := (E0.add1 n_slices_IndexFunc_int slices_IndexFunc_int__i_IsPuzzle_1_sh slices_IndexFunc_int__i_IsPuzzle_1_fo slices_IndexFunc_int__i_IsPuzzle_1)
theorem slices_ContainsFunc_int__i_IsPuzzle_1_Eok : (slices_ContainsFunc_int__i_IsPuzzle_1_E).OK := (E0ok.add1 slices_IndexFunc_int__i_IsPuzzle_1_ok)
noncomputable def slices_ContainsFunc_int__i_IsPuzzle_1_told : Nat → Option SealT := fun id => none
theorem slices_ContainsFunc_int__i_IsPuzzle_1_ok : FOK Try.prog n_slices_ContainsFunc_int slices_ContainsFunc_int__i_IsPuzzle_1_sh slices_ContainsFunc_int__i_IsPuzzle_1_fo slices_ContainsFunc_int__i_IsPuzzle_1 :=
  fn_ok (E := slices_ContainsFunc_int__i_IsPuzzle_1_E) (slices_ContainsFunc_int__i_IsPuzzle_1_Eok) (told := slices_ContainsFunc_int__i_IsPuzzle_1_told) (fl := []) (c := bodyOf fn_slices_ContainsFunc_int) (s := slices_ContainsFunc_int__i_IsPuzzle_1_sh) (l := slices_ContainsFunc_int__i_IsPuzzle_1_fo) (tree := slices_ContainsFunc_int__i_IsPuzzle_1_t) fnat_slices_ContainsFunc_int (by kernel_rfl) (by kernel_rfl) (by kernel_rfl) (loopsOK_of (ls := []) (by kernel_rfl) trivial) (fun v => by kernel_rfl)

theorem slices_ContainsFunc_int__i_IsPuzzle_1_eq (l : List Int) (c : Int) (hl : l.length < 4611686018427387904) (h : 0 ≤ c) (h2 : c < 4611686018427387904) : slices_ContainsFunc_int__i_IsPuzzle_1 ((l, ()), c) = some (l.any (fun k => !inB 0 (c - 2) k), c) := by
  simp only [slices_ContainsFunc_int__i_IsPuzzle_1, slices_ContainsFunc_int__i_IsPuzzle_1_t, T.run, slices_IndexFunc_int__i_IsPuzzle_1_eq _ _ hl h h2, Option.bind_some, idxI_ge]


def i_IsPuzzle_sh : FSh := ⟨[(.ag [(.sl (.int .i64) false false)])], []⟩

def i_IsPuzzle_fo : List FO := [⟨[(.one .sb)], []⟩]
noncomputable def i_IsPuzzle_t : List (Int) → T Bool := fun p_0 =>
  (.sub (i_within (((List.length p_0) : Int), ((3 : Int), (9 : Int)))) fun z0 =>
  (.test z0
  (.sub (slices_ContainsFunc_int__i_IsPuzzle_1 ((p_0, ()), ((List.length p_0) : Int))) fun z1 =>
   (.ret (! z1.1)))
  (.ret false)))
noncomputable def i_IsPuzzle (v : List (Int)) : Option Bool := (i_IsPuzzle_t v).run
noncomputable def i_IsPuzzle_E : TEnv := ((E0.add1 n_i_within i_within_sh i_within_fo i_within).add1 n_slices_ContainsFunc_int slices_ContainsFunc_int__i_IsPuzzle_1_sh slices_ContainsFunc_int__i_IsPuzzle_1_fo slices_ContainsFunc_int__i_IsPuzzle_1)
theorem i_IsPuzzle_Eok : (i_IsPuzzle_E).OK := ((E0ok.add1 i_within_ok).add1 slices_ContainsFunc_int__i_IsPuzzle_1_ok)
noncomputable def i_IsPuzzle_told : Nat → Option SealT := fun id => none
theorem i_IsPuzzle_ok : FOK Try.prog n_i_IsPuzzle i_IsPuzzle_sh i_IsPuzzle_fo i_IsPuzzle :=
  fn_ok (E := i_IsPuzzle_E) (i_IsPuzzle_Eok) (told := i_IsPuzzle_told) (fl := []) (c := bodyOf fn_i_IsPuzzle) (s := i_IsPuzzle_sh) (l := i_IsPuzzle_fo) (tree := i_IsPuzzle_t) fnat_i_IsPuzzle (by kernel_rfl) (by kernel_rfl) (by kernel_rfl) (loopsOK_of (ls := []) (by kernel_rfl) trivial) (fun v => by kernel_rfl)

theorem i_IsPuzzle_eq (l : List Int) (hl : l.length < 4611686018427387904) : i_IsPuzzle l = some (isPz l) := by
  simp only [i_IsPuzzle, i_IsPuzzle_t, T.run, i_within_eq, Option.bind_some, slices_ContainsFunc_int__i_IsPuzzle_1_eq l l.length hl (by omega) (by omega), all_any, isPz]
  cases inB 3 9 l.length <;> simp


def i_ParsePuzzle_sh : FSh := ⟨[(.one .ss)], []⟩

def i_ParsePuzzle_L5_sh : LSh := ⟨(fun ex => match ex with | .norm => [(2, none), (4, none), (13, none), (14, none), (15, none)] | .exit i => if i = 0 then [(2, none), (4, none)] else [] | .ret => [(2, none), (3, none)]), [(2, (.one (.pf 0 0 0))), (4, (.one (.rw 1 0))), (13, (.one (.sl (.int .u8) false true))), (14, (.one (.si .i64))), (15, (.one (.si .i64)))], [(.rcd 0 [(.nl true true)]), (.row 0 (.int .i64))], [⟨.ret, [(2, (.one (.pf 0 0 0))), (3, (.one .sb))], [(.rcd 0 [(.nl true true)])]⟩, ⟨(.exit 0), [(2, (.one (.pf 0 0 0))), (4, (.one (.rw 1 0)))], [(.rcd 0 [(.nl true true)]), (.row 0 (.int .i64))]⟩], []⟩
noncomputable def i_ParsePuzzle_L5_step : ((Unit × Unit × List (Int) × Int × Int) × (Unit × List (Int))) → T (((Unit × Unit × List (Int) × Int × Int) × (Unit × List (Int))) ⊕ (((Unit × Bool) × Unit) ⊕ ((Unit × Unit) × (Unit × List (Int))))) := fun (((), (), t13, t14, t15), ((), out)) =>
  (.test (decide (t15 < t14))
  (.test (decide ((0 ≤ t15) ∧ (t15 < ((List.length t13) : Int))))
   (.sub (t13[(Int.toNat t15)]?) fun z0 =>
    (.test (z0 == 46)
    (.test true
     (.test (decide ((0 + (List.length out)) ≤ (List.length out)))
      (.test (decide ((2 * (((List.length out) + 1) * 9)) ≤ 140737488355328))
       (.test (decide ((0 = 0) ∧ (((List.length out) + 1) = (List.length ((win out 0 (List.length out)) ++ (win (List.set (List.replicate 1 (0 : Int)) 0 (0 : Int)) 0 1))))))
        (.ret (Sum.inl (((), ((), (t13, (t14, (w64 (t15 + 1)))))), ((), ((win out 0 (List.length out)) ++ (win (List.set (List.replicate 1 (0 : Int)) 0 (0 : Int)) 0 1))))))
        .fail)
       .fail)
      .fail)
     .fail)
    (.test (decide (z0 ≥ 49))
     (.test (decide (z0 ≤ 57))
      (.test (decide (1 ≤ (List.length (List.set (List.replicate 1 (0 : Int)) 0 (w64 (wu8 (z0 - 48)))))))
       (.test (decide ((0 + (List.length out)) ≤ (List.length out)))
        (.test (decide ((2 * (((List.length out) + (List.length (win (List.set (List.replicate 1 (0 : Int)) 0 (w64 (wu8 (z0 - 48)))) 0 1))) * 9)) ≤ 140737488355328))
         (.test (decide ((0 = 0) ∧ (((List.length out) + (List.length (win (List.set (List.replicate 1 (0 : Int)) 0 (w64 (wu8 (z0 - 48)))) 0 1))) = (List.length ((win out 0 (List.length out)) ++ (win (List.set (List.replicate 1 (0 : Int)) 0 (w64 (wu8 (z0 - 48)))) 0 1))))))
          (.ret (Sum.inl (((), ((), (t13, (t14, (w64 (t15 + 1)))))), ((), ((win out 0 (List.length out)) ++ (win (List.set (List.replicate 1 (0 : Int)) 0 (w64 (wu8 (z0 - 48)))) 0 1))))))
          .fail)
         .fail)
        .fail)
       .fail)
      (.ret (Sum.inr (Sum.inl (((), false), ())))))
     (.ret (Sum.inr (Sum.inl (((), false), ())))))))
   .fail)
  (.test (decide ((0 = 0) ∧ ((List.length out) = (List.length out))))
   (.ret (Sum.inr (Sum.inr (((), ()), ((), out)))))
   .fail))
noncomputable def i_ParsePuzzle_L5 (v : ((Unit × Unit × List (Int) × Int × Int) × (Unit × List (Int)))) : Option (((Unit × Bool) × Unit) ⊕ ((Unit × Unit) × (Unit × List (Int)))) := loopO (fun v => (i_ParsePuzzle_L5_step v).run) v

def i_ParsePuzzle_w_fo : List FO := [⟨[(.ag [(.nl true true)]), (.one .sb)], []⟩, ⟨[(.ag [(.rw 0 0)]), (.one .sb)], [(.row 0 (.int .i64))]⟩]
noncomputable def i_ParsePuzzle_t : List UInt8 → T ((Unit × Bool) ⊕ ((Unit × Bool) × List (Int))) := fun s =>
  (.test (decide (((List.length s) : Int) > 9))
  (.ret (Sum.inl ((), false)))
  (.test (decide ((List.length s) ≤ 140737488355328))
   (.test true
    (.sub (i_ParsePuzzle_L5 (((), ((), ((bytesI s), (((List.length (bytesI s)) : Int), (0 : Int))))), ((), (List.replicate 0 (0 : Int))))) fun z0 =>
     (.test (Sum.isLeft z0)
     (.sub (Sum.getLeft? z0) fun z1 =>
      (.ret (Sum.inl ((), z1.1.2))))
     (.sub (Sum.getRight? z0) fun z2 =>
      (.test (decide ((0 + (List.length z2.2.2)) ≤ (List.length z2.2.2)))
      (.sub (i_IsPuzzle (win z2.2.2 0 (List.length z2.2.2))) fun z3 =>
       (.test (! z3)
       (.ret (Sum.inl ((), false)))
       (.test (decide ((0 = 0) ∧ ((List.length z2.2.2) = (List.length z2.2.2))))
        (.ret (Sum.inr (((), true), z2.2.2)))
        .fail)))
      .fail))))
    .fail)
   .fail))
noncomputable def i_ParsePuzzle_w (v : List UInt8) : Option ((Unit × Bool) ⊕ ((Unit × Bool) × List (Int))) := (i_ParsePuzzle_t v).run
noncomputable def i_ParsePuzzle_E : TEnv := (E0.add1 n_i_IsPuzzle i_IsPuzzle_sh i_IsPuzzle_fo i_IsPuzzle)
theorem i_ParsePuzzle_Eok : (i_ParsePuzzle_E).OK := (E0ok.add1 i_IsPuzzle_ok)
noncomputable def i_ParsePuzzle_told : Nat → Option SealT := fun id => if id = 5 then some (LSh.told i_ParsePuzzle_L5_sh 0 (i_ParsePuzzle_L5_step)) else none
theorem i_ParsePuzzle_L5_ok : ToldOK Try.prog 0 (loopAt (bodyOf fn_i_ParsePuzzle) [0]) (LSh.told i_ParsePuzzle_L5_sh 0 (i_ParsePuzzle_L5_step)) :=
  loop_ok (E := i_ParsePuzzle_E) (i_ParsePuzzle_Eok) (told := i_ParsePuzzle_told) (l := i_ParsePuzzle_L5_sh) (step := i_ParsePuzzle_L5_step) (loopsOK_of (ls := []) (by kernel_rfl) trivial) (by kernel_rfl) (fun v => by kernel_rfl)
theorem i_ParsePuzzle_w_ok : FOK Try.prog n_i_ParsePuzzle i_ParsePuzzle_sh i_ParsePuzzle_w_fo i_ParsePuzzle_w :=
  fn_ok (E := i_ParsePuzzle_E) (i_ParsePuzzle_Eok) (told := i_ParsePuzzle_told) (fl := []) (c := bodyOf fn_i_ParsePuzzle) (s := i_ParsePuzzle_sh) (l := i_ParsePuzzle_w_fo) (tree := i_ParsePuzzle_t) fnat_i_ParsePuzzle (by kernel_rfl) (by kernel_rfl) (by kernel_rfl) (loopsOK_of (ls := [loopAt (bodyOf fn_i_ParsePuzzle) [0]]) (by kernel_rfl) ⟨.inr ⟨_, by kernel_rfl, i_ParsePuzzle_L5_ok⟩, trivial⟩) (fun v => by kernel_rfl)
def i_ParsePuzzle_fo : List FO := [⟨[(.ag [(.rw 0 0)]), (.one .sb)], [(.row 0 (.int .i64))]⟩]
def i_ParsePuzzle_m : ((Unit × Bool) ⊕ ((Unit × Bool) × List (Int))) → ((Unit × Bool) × List (Int)) := fun o => match o with | (.inl a) => (a, []) | (.inr x) => x
noncomputable def i_ParsePuzzle (v : List UInt8) : Option ((Unit × Bool) × List (Int)) := (i_ParsePuzzle_w v).map i_ParsePuzzle_m
theorem i_ParsePuzzle_ok : FOK Try.prog n_i_ParsePuzzle i_ParsePuzzle_sh i_ParsePuzzle_fo i_ParsePuzzle :=
  FOK.own (l' := i_ParsePuzzle_fo) i_ParsePuzzle_w_ok i_ParsePuzzle_m [(.int .i64)] (by decide) (fun o => match o with | (.inl a) => .inr (by kernel_rfl) | (.inr x) => .inl (by kernel_rfl))

theorem i_ParsePuzzle_eq (s : List UInt8) : i_ParsePuzzle s = some (((), (pzRes s).1), (pzRes s).2) := by
  rw [i_ParsePuzzle, i_ParsePuzzle_w, i_ParsePuzzle_t, T.run_test]
  unfold pzRes
  by_cases hl : s.length > 9
  · rw [if_pos (by simp; omega), if_pos hl]; rfl
  · rw [if_neg (by simp; omega), if_neg hl]
    have h := loop_listI (step := fun v => (i_ParsePuzzle_L5_step v).run) (xs := s) (fun k (acc : List Int) => acc.length = k) (fun k acc => (((), (), bytesI s, (s.length : Int), (k : Int)), ((), acc)))
      (fun acc b => match pzCell b with | some z => .inl (acc ++ [z]) | none => .inr (Sum.inl (((), false), ()))) (fun acc => Sum.inr (((), ()), ((), acc)))
      (by
        intro k acc b hk hb
        have hlt := getElem?_lt hb
        subst hk
        refine ⟨?_, fun s' h => ?_⟩
        · simp only [i_ParsePuzzle_L5_step, T.run, Int.toNat_natCast, bytesI_get hb, bytesI_len, Option.bind_some, win_one, win_all, win_sing]
          rw [w64_id (z := (acc.length : Int) + 1) (by omega) (by omega)]
          have c1 : (acc.length : Int) < (s.length : Int) := by omega
          unfold pzCell
          by_cases h1 : b.toNat = 46
          · simp [h1, c1]; omega
          · have h1' : ¬ ((b.toNat : Int) = 46) := by omega
            by_cases h2 : 49 ≤ b.toNat ∧ b.toNat ≤ 57
            · have e1 : wu8 ((b.toNat : Int) - 48) = (b.toNat : Int) - 48 := by unfold wu8; rw [IntKind.wrap_u8]; omega
              have e2 : w64 ((b.toNat : Int) - 48) = (b.toNat : Int) - 48 := w64_id (by omega) (by omega)
              have h3 : (49 : Int) ≤ b.toNat := by omega
              have h4 : (b.toNat : Int) ≤ 57 := by omega
              simp [h1, h1', c1, e1, e2, h2, h3, h4, win_one]; omega
            · by_cases h3 : (49 : Int) ≤ b.toNat
              · have h4 : ¬ ((b.toNat : Int) ≤ 57) := by omega
                simp [h1, h1', c1, h2, h3, h4]
              · simp [h1, h1', c1, h2, h3]
        · cases hc : pzCell b with
          | some z => rw [hc] at h; cases h; simp
          | none => rw [hc] at h; cases h)
      (by intro acc hk; simp [i_ParsePuzzle_L5_step, T.run])
      0 [] (Nat.zero_le _) rfl
    rw [List.drop_zero, forE_pz] at h
    simp only [T.run, i_ParsePuzzle_L5, bytesI_len, List.replicate]
    rw [show ((0 : Nat) : Int) = 0 from rfl] at h
    simp only [h, List.nil_append]
    have c2 : s.length ≤ 140737488355328 := by omega
    cases hp : pzRead s with
    | none => simp [c2, i_ParsePuzzle_m]
    | some r =>
      have hrl := pzRead_len hp
      have := i_IsPuzzle_eq r (by omega)
      simp only [c2, Option.bind_some, Sum.isLeft, Sum.getRight?, win_all, this]
      cases isPz r <;> simp [i_ParsePuzzle_m]


def l_eqIntS_sh : FSh := ⟨[(.one (.sl (.int .i64) false false)), (.one (.sl (.int .i64) false false))], []⟩

def l_eqIntS_L4_sh : LSh := ⟨(fun ex => match ex with | .norm => [(0, none), (1, none), (5, none)] | .exit i => if i = 0 then [] else [] | .ret => [(4, none)]), [(0, (.one (.sl (.int .i64) false false))), (1, (.one (.sl (.int .i64) false false))), (5, (.one (.si .i64)))], [], [⟨.ret, [(4, (.one .sb))], []⟩, ⟨(.exit 0), [], []⟩], []⟩
noncomputable def l_eqIntS_L4_step : (List (Int) × List (Int) × Int) → T ((List (Int) × List (Int) × Int) ⊕ (Bool ⊕ Unit)) := fun (a, b, i) =>
  (.test (decide (i < ((List.length a) : Int)))
  (.test (decide ((0 ≤ i) ∧ (i < ((List.length a) : Int))))
   (.sub (a[(Int.toNat i)]?) fun z0 =>
    (.test (decide ((0 ≤ i) ∧ (i < ((List.length b) : Int))))
    (.sub (b[(Int.toNat i)]?) fun z1 =>
     (.test (z0 != z1)
     (.ret (Sum.inr (Sum.inl false)))
     (.ret (Sum.inl (a, (b, (w64 (i + 1))))))))
    .fail))
   .fail)
  (.ret (Sum.inr (Sum.inr ()))))
noncomputable def l_eqIntS_L4 (v : (List (Int) × List (Int) × Int)) : Option (Bool ⊕ Unit) := loopO (fun v => (l_eqIntS_L4_step v).run) v

def l_eqIntS_fo : List FO := [⟨[(.one .sb)], []⟩]
noncomputable def l_eqIntS_t : (List (Int) × List (Int)) → T Bool := fun (a, b) =>
  (.test (((List.length a) : Int) != ((List.length b) : Int))
  (.ret false)
  (.sub (l_eqIntS_L4 (a, (b, (0 : Int)))) fun z0 =>
   (.test (Sum.isLeft z0)
   (.sub (Sum.getLeft? z0) fun z1 =>
    (.ret z1))
   (.sub (Sum.getRight? z0) fun z2 =>
    (.ret true)))))
noncomputable def l_eqIntS (v : (List (Int) × List (Int))) : Option Bool := (l_eqIntS_t v).run
noncomputable def l_eqIntS_E : TEnv := E0
theorem l_eqIntS_Eok : (l_eqIntS_E).OK := E0ok
noncomputable def l_eqIntS_told : Nat → Option SealT := fun id => if id = 4 then some (LSh.told l_eqIntS_L4_sh 0 (l_eqIntS_L4_step)) else none
theorem l_eqIntS_L4_ok : ToldOK Try.prog 0 (loopAt (bodyOf fn_l_eqIntS) [0]) (LSh.told l_eqIntS_L4_sh 0 (l_eqIntS_L4_step)) :=
  loop_ok (E := l_eqIntS_E) (l_eqIntS_Eok) (told := l_eqIntS_told) (l := l_eqIntS_L4_sh) (step := l_eqIntS_L4_step) (loopsOK_of (ls := []) (by kernel_rfl) trivial) (by kernel_rfl) (fun v => by kernel_rfl)
theorem l_eqIntS_ok : FOK Try.prog n_l_eqIntS l_eqIntS_sh l_eqIntS_fo l_eqIntS :=
  fn_ok (E := l_eqIntS_E) (l_eqIntS_Eok) (told := l_eqIntS_told) (fl := []) (c := bodyOf fn_l_eqIntS) (s := l_eqIntS_sh) (l := l_eqIntS_fo) (tree := l_eqIntS_t) fnat_l_eqIntS (by kernel_rfl) (by kernel_rfl) (by kernel_rfl) (loopsOK_of (ls := [loopAt (bodyOf fn_l_eqIntS) [0]]) (by kernel_rfl) ⟨.inr ⟨_, by kernel_rfl, l_eqIntS_L4_ok⟩, trivial⟩) (fun v => by kernel_rfl)

theorem l_eqIntS_eq (a b : List Int) (hl : a.length < 4611686018427387904) : l_eqIntS (a, b) = some (decide (a = b)) := by
  by_cases hab : a.length = b.length
  · have h := loop_any (step := fun v => (l_eqIntS_L4_step v).run) (xs := a.zip b) (fun p => p.1 != p.2) (fun k => (a, b, (k : Int))) (.inl false) (.inr ())
      (fun k x hx => by
        have hk := getElem?_lt hx
        rw [List.length_zip, hab, Nat.min_self] at hk
        rw [List.getElem?_zip_eq_some] at hx
        simp only [l_eqIntS_L4_step, T.run, Option.bind_some, Int.toNat_natCast, hx.1, hx.2]
        rw [w64_id (by omega) (by omega)]
        have hka : k < a.length := by omega
        cases x.1 != x.2 <;> simp [hk, hka])
      (by simp [l_eqIntS_L4_step, T.run, hab])
    simp only [l_eqIntS, l_eqIntS_t, T.run, l_eqIntS_L4]
    simp only [Int.natCast_zero] at h
    rw [h, hab]
    have e : (a.zip b).any (fun p => p.1 != p.2) = !decide (a = b) := zip_any_ne a b hab
    rw [e]
    cases decide (a = b) <;> simp
  · simp only [l_eqIntS, l_eqIntS_t, T.run]
    have : a ≠ b := fun e => hab (by rw [e])
    simp [this]
    omega


def l_eqPuzzle_sh : FSh := ⟨[(.ag [(.sl (.int .i64) false false)]), (.ag [(.sl (.int .i64) false false)])], []⟩

def l_eqPuzzle_fo : List FO := [⟨[(.one .sb)], []⟩]
noncomputable def l_eqPuzzle_t : (List (Int) × List (Int)) → T Bool := fun (a_0, b_0) =>
  (.sub (l_eqIntS (a_0, b_0)) fun z0 =>
  (.test (! z0)
  (.ret false)
  (.ret true)))
noncomputable def l_eqPuzzle (v : (List (Int) × List (Int))) : Option Bool := (l_eqPuzzle_t v).run
noncomputable def l_eqPuzzle_E : TEnv := (E0.add1 n_l_eqIntS l_eqIntS_sh l_eqIntS_fo l_eqIntS)
theorem l_eqPuzzle_Eok : (l_eqPuzzle_E).OK := (E0ok.add1 l_eqIntS_ok)
noncomputable def l_eqPuzzle_told : Nat → Option SealT := fun id => none
theorem l_eqPuzzle_ok : FOK Try.prog n_l_eqPuzzle l_eqPuzzle_sh l_eqPuzzle_fo l_eqPuzzle :=
  fn_ok (E := l_eqPuzzle_E) (l_eqPuzzle_Eok) (told := l_eqPuzzle_told) (fl := []) (c := bodyOf fn_l_eqPuzzle) (s := l_eqPuzzle_sh) (l := l_eqPuzzle_fo) (tree := l_eqPuzzle_t) fnat_l_eqPuzzle (by kernel_rfl) (by kernel_rfl) (by kernel_rfl) (loopsOK_of (ls := []) (by kernel_rfl) trivial) (fun v => by kernel_rfl)

theorem l_eqPuzzle_eq (a b : List Int) (hl : a.length < 4611686018427387904) : l_eqPuzzle (a, b) = some (decide (a = b)) := by
  simp only [l_eqPuzzle, l_eqPuzzle_t, T.run, l_eqIntS_eq a b hl, Option.bind_some]
  cases decide (a = b) <;> rfl


def l_markIntS_sh : FSh := ⟨[(.one (.rw 0 0)), (.one (.si .i64))], [(.row 0 (.int .i64))]⟩

def l_markIntS_L2_sh : LSh := ⟨(fun ex => match ex with | .norm => [(0, none), (1, none), (5, none)] | .exit i => if i = 0 then [(1, none)] else [] | .ret => [(4, none)]), [(0, (.one (.rw 0 0))), (1, (.one (.si .i64))), (5, (.one (.si .i64)))], [(.row 0 (.int .i64))], [⟨(.exit 0), [(1, (.one (.si .i64)))], [(.row 0 (.int .i64))]⟩], []⟩
noncomputable def l_markIntS_L2_step : ((Unit × Int × Int) × List (Int)) → T (((Unit × Int × Int) × List (Int)) ⊕ (Int × List (Int))) := fun (((), k, i), a) =>
  (.test (decide (i < ((List.length a) : Int)))
  (.test (decide ((0 ≤ i) ∧ (i < ((List.length a) : Int))))
   (.sub (a[(0 + (Int.toNat i))]?) fun z0 =>
    (.test (decide ((0 = 0) ∧ ((List.length a) = (List.length (List.set a (0 + (Int.toNat i)) k)))))
    (.ret (Sum.inl (((), ((w64 (k + 1)), (w64 (i + 1)))), (List.set a (0 + (Int.toNat i)) k))))
    .fail))
   .fail)
  (.ret (Sum.inr (k, a))))
noncomputable def l_markIntS_L2 (v : ((Unit × Int × Int) × List (Int))) : Option (Int × List (Int)) := loopO (fun v => (l_markIntS_L2_step v).run) v

def l_markIntS_fo : List FO := [⟨[(.one (.si .i64))], [(.row 0 (.int .i64))]⟩]
noncomputable def l_markIntS_t : ((Unit × Int) × List (Int)) → T (Int × List (Int)) := fun (((), k), a) =>
  (.test (decide ((0 = 0) ∧ ((List.length a) = (List.length a))))
  (.sub (l_markIntS_L2 (((), (k, (0 : Int))), a)) fun z0 =>
   (.ret (z0.1, z0.2)))
  .fail)
noncomputable def l_markIntS (v : ((Unit × Int) × List (Int))) : Option (Int × List (Int)) := (l_markIntS_t v).run
noncomputable def l_markIntS_E : TEnv := E0
theorem l_markIntS_Eok : (l_markIntS_E).OK := E0ok
noncomputable def l_markIntS_told : Nat → Option SealT := fun id => if id = 2 then some (LSh.told l_markIntS_L2_sh 1 (l_markIntS_L2_step)) else none
theorem l_markIntS_L2_ok : ToldOK Try.prog 1 (loopAt (bodyOf fn_l_markIntS) [0]) (LSh.told l_markIntS_L2_sh 1 (l_markIntS_L2_step)) :=
  loop_ok (E := l_markIntS_E) (l_markIntS_Eok) (told := l_markIntS_told) (l := l_markIntS_L2_sh) (step := l_markIntS_L2_step) (loopsOK_of (ls := []) (by kernel_rfl) trivial) (by kernel_rfl) (fun v => by kernel_rfl)
theorem l_markIntS_ok : FOK Try.prog n_l_markIntS l_markIntS_sh l_markIntS_fo l_markIntS :=
  fn_ok (E := l_markIntS_E) (l_markIntS_Eok) (told := l_markIntS_told) (fl := []) (c := bodyOf fn_l_markIntS) (s := l_markIntS_sh) (l := l_markIntS_fo) (tree := l_markIntS_t) fnat_l_markIntS (by kernel_rfl) (by kernel_rfl) (by kernel_rfl) (loopsOK_of (ls := [loopAt (bodyOf fn_l_markIntS) [0]]) (by kernel_rfl) ⟨.inr ⟨_, by kernel_rfl, l_markIntS_L2_ok⟩, trivial⟩) (fun v => by kernel_rfl)

theorem l_markIntS_L2_eq (k : Int) (l : List Int) (hk : 0 ≤ k ∧ k < 1000000000000) (hl : l.length < 1000000000000000) : ∀ n i, i + n = l.length →
    l_markIntS_L2 (((), (k + i, (i : Int))), iot k i ++ l.drop i) = some (k + l.length, iot k l.length) := by
  intro n
  induction n with
  | zero =>
    intro i hi
    obtain rfl : i = l.length := by omega
    rw [List.drop_length, List.append_nil]
    simp only [l_markIntS_L2]
    exact loopO_done (by simp [l_markIntS_L2_step, T.run, iot_len])
  | succ n ih =>
    intro i hi
    have hlt : i < l.length := by omega
    have hd : l.drop i = l[i] :: l.drop (i + 1) := List.drop_eq_getElem_cons hlt
    have hlen : (iot k i ++ l.drop i).length = l.length := by rw [List.length_append, iot_len, List.length_drop]; omega
    have hget : (iot k i ++ l.drop i)[i]? = some l[i] := by
      rw [List.getElem?_append_right (by rw [iot_len]; omega), iot_len, Nat.sub_self, hd]; rfl
    have hset : List.set (iot k i ++ l.drop i) i (k + i) = iot k (i + 1) ++ l.drop (i + 1) := by
      rw [List.set_append_right _ _ (by rw [iot_len]; omega), iot_len, Nat.sub_self, hd, iot_succ, List.append_assoc]; rfl
    simp only [l_markIntS_L2] at ih ⊢
    have hst : (l_markIntS_L2_step (((), (k + i, (i : Int))), iot k i ++ l.drop i)).run = some (.inl (((), (k + (i + 1 : Nat), ((i + 1 : Nat) : Int))), iot k (i + 1) ++ l.drop (i + 1))) := by
      simp only [l_markIntS_L2_step, T.run, hlen, Int.toNat_natCast, Nat.zero_add, hget, Option.bind_some, hset]
      rw [w64_id (z := k + i + 1) (by omega) (by omega), w64_id (z := (i : Int) + 1) (by omega) (by omega)]
      have h1 : (i : Int) < (l.length : Int) := by omega
      have h2 : (0 : Int) ≤ i ∧ (i : Int) < (l.length : Int) := by omega
      simp only [h1, h2, decide_true, if_true]
      have h3 : (iot k (i + 1) ++ l.drop (i + 1)).length = l.length := by rw [List.length_append, iot_len, List.length_drop]; omega
      simp [h3, Int.add_assoc]
    rw [loopO_next hst]
    exact ih (i + 1) (by omega)
theorem l_markIntS_eq (k : Int) (l : List Int) (hk : 0 ≤ k ∧ k < 1000000000000) (hl : l.length < 1000000000000000) : l_markIntS (((), k), l) = some (k + l.length, iot k l.length) := by
  have h := l_markIntS_L2_eq k l hk hl l.length 0 (by omega)
  simp only [l_markIntS, l_markIntS_t, T.run]
  have e : iot k 0 ++ l.drop 0 = l := by simp [iot]
  rw [e, show ((0 : Nat) : Int) = 0 from rfl, Int.add_zero] at h
  simp [h]


def l_markPuzzle_sh : FSh := ⟨[(.ag [(.rw 0 0)]), (.one (.si .i64))], [(.row 0 (.int .i64))]⟩

def l_markPuzzle_fo : List FO := [⟨[(.one (.si .i64))], [(.row 0 (.int .i64))]⟩]
noncomputable def l_markPuzzle_t : ((Unit × Int) × List (Int)) → T (Int × List (Int)) := fun (((), k), a_r) =>
  (.test (decide ((0 = 0) ∧ ((List.length a_r) = (List.length a_r))))
  (.sub (l_markIntS (((), k), a_r)) fun z0 =>
   (.ret (z0.1, z0.2)))
  .fail)
noncomputable def l_markPuzzle (v : ((Unit × Int) × List (Int))) : Option (Int × List (Int)) := (l_markPuzzle_t v).run
noncomputable def l_markPuzzle_E : TEnv := (E0.add1 n_l_markIntS l_markIntS_sh l_markIntS_fo l_markIntS)
theorem l_markPuzzle_Eok : (l_markPuzzle_E).OK := (E0ok.add1 l_markIntS_ok)
noncomputable def l_markPuzzle_told : Nat → Option SealT := fun id => none
theorem l_markPuzzle_ok : FOK Try.prog n_l_markPuzzle l_markPuzzle_sh l_markPuzzle_fo l_markPuzzle :=
  fn_ok (E := l_markPuzzle_E) (l_markPuzzle_Eok) (told := l_markPuzzle_told) (fl := []) (c := bodyOf fn_l_markPuzzle) (s := l_markPuzzle_sh) (l := l_markPuzzle_fo) (tree := l_markPuzzle_t) fnat_l_markPuzzle (by kernel_rfl) (by kernel_rfl) (by kernel_rfl) (loopsOK_of (ls := []) (by kernel_rfl) trivial) (fun v => by kernel_rfl)

theorem l_markPuzzle_eq (k : Int) (l : List Int) (hk : 0 ≤ k ∧ k < 1000000000000) (hl : l.length < 1000000000000000) : l_markPuzzle (((), k), l) = some (k + l.length, iot k l.length) := by
  simp [l_markPuzzle, l_markPuzzle_t, T.run, l_markIntS_eq k l hk hl]


def l_heldIntS_sh : FSh := ⟨[(.one (.sl (.int .i64) false false)), (.one (.si .i64))], []⟩

def l_heldIntS_L2_sh : LSh := ⟨(fun ex => match ex with | .norm => [(0, none), (1, none), (5, none)] | .exit i => if i = 0 then [(1, none)] else [] | .ret => [(4, none)]), [(0, (.one (.sl (.int .i64) false false))), (1, (.one (.si .i64))), (5, (.one (.si .i64)))], [], [⟨.ret, [(4, (.one (.si .i64)))], []⟩, ⟨(.exit 0), [(1, (.one (.si .i64)))], []⟩], []⟩
noncomputable def l_heldIntS_L2_step : (List (Int) × Int × Int) → T ((List (Int) × Int × Int) ⊕ (Int ⊕ Int)) := fun (a, k, i) =>
  (.test (decide (i < ((List.length a) : Int)))
  (.test (decide ((0 ≤ i) ∧ (i < ((List.length a) : Int))))
   (.sub (a[(Int.toNat i)]?) fun z0 =>
    (.test (z0 != k)
    (.ret (Sum.inr (Sum.inl (-1))))
    (.ret (Sum.inl (a, ((w64 (k + 1)), (w64 (i + 1))))))))
   .fail)
  (.ret (Sum.inr (Sum.inr k))))
noncomputable def l_heldIntS_L2 (v : (List (Int) × Int × Int)) : Option (Int ⊕ Int) := loopO (fun v => (l_heldIntS_L2_step v).run) v

def l_heldIntS_fo : List FO := [⟨[(.one (.si .i64))], []⟩]
noncomputable def l_heldIntS_t : (List (Int) × Int) → T Int := fun (a, k) =>
  (.sub (l_heldIntS_L2 (a, (k, (0 : Int)))) fun z0 =>
  (.test (Sum.isLeft z0)
  (.sub (Sum.getLeft? z0) fun z1 =>
   (.ret z1))
  (.sub (Sum.getRight? z0) fun z2 =>
   (.ret z2))))
noncomputable def l_heldIntS (v : (List (Int) × Int)) : Option Int := (l_heldIntS_t v).run
noncomputable def l_heldIntS_E : TEnv := E0
theorem l_heldIntS_Eok : (l_heldIntS_E).OK := E0ok
noncomputable def l_heldIntS_told : Nat → Option SealT := fun id => if id = 2 then some (LSh.told l_heldIntS_L2_sh 0 (l_heldIntS_L2_step)) else none
theorem l_heldIntS_L2_ok : ToldOK Try.prog 0 (loopAt (bodyOf fn_l_heldIntS) [0]) (LSh.told l_heldIntS_L2_sh 0 (l_heldIntS_L2_step)) :=
  loop_ok (E := l_heldIntS_E) (l_heldIntS_Eok) (told := l_heldIntS_told) (l := l_heldIntS_L2_sh) (step := l_heldIntS_L2_step) (loopsOK_of (ls := []) (by kernel_rfl) trivial) (by kernel_rfl) (fun v => by kernel_rfl)
theorem l_heldIntS_ok : FOK Try.prog n_l_heldIntS l_heldIntS_sh l_heldIntS_fo l_heldIntS :=
  fn_ok (E := l_heldIntS_E) (l_heldIntS_Eok) (told := l_heldIntS_told) (fl := []) (c := bodyOf fn_l_heldIntS) (s := l_heldIntS_sh) (l := l_heldIntS_fo) (tree := l_heldIntS_t) fnat_l_heldIntS (by kernel_rfl) (by kernel_rfl) (by kernel_rfl) (loopsOK_of (ls := [loopAt (bodyOf fn_l_heldIntS) [0]]) (by kernel_rfl) ⟨.inr ⟨_, by kernel_rfl, l_heldIntS_L2_ok⟩, trivial⟩) (fun v => by kernel_rfl)

theorem l_heldIntS_eq (k : Int) (n : Nat) (hk : 0 ≤ k ∧ k < 1000000000000) (hl : n < 1000000000000000) : l_heldIntS (iot k n, k) = some (k + n) := by
  have h := loop_count (step := fun v => (l_heldIntS_L2_step v).run) (n := n) (fun i (_ : Unit) => (iot k n, (k + (i : Int), (i : Int)))) (fun _ _ => Sum.inl ()) (fun _ => Sum.inr (k + (n : Int)))
    (by
      intro i s hi
      simp only [l_heldIntS_L2_step, T.run, iot_len, Int.toNat_natCast, iot_get k hi, Option.bind_some]
      rw [w64_id (z := k + i + 1) (by omega) (by omega), w64_id (z := (i : Int) + 1) (by omega) (by omega)]
      have h1 : (i : Int) < (n : Int) := by omega
      have h2 : (0 : Int) ≤ i ∧ (i : Int) < (n : Int) := by omega
      simp [h1, h2, Int.add_assoc])
    (by intro s; simp [l_heldIntS_L2_step, T.run, iot_len]) 0 () (Nat.zero_le _)
  rw [show ((0 : Nat) : Int) = 0 from rfl, Int.add_zero] at h
  have hf : ∀ l : List Nat, forE (fun (_ : Unit) (_ : Nat) => (Sum.inl () : Unit ⊕ (Int ⊕ Int))) (fun _ => Sum.inr (k + (n : Int))) l () = Sum.inr (k + (n : Int)) := by
    intro l
    induction l with
    | nil => rfl
    | cons x t ih => rw [forE_cons]; exact ih
  rw [hf] at h
  simp only [l_heldIntS, l_heldIntS_t, T.run, l_heldIntS_L2]
  rw [h]
  simp [Sum.isLeft]


def l_heldPuzzle_sh : FSh := ⟨[(.ag [(.sl (.int .i64) false false)]), (.one (.si .i64))], []⟩

def l_heldPuzzle_fo : List FO := [⟨[(.one (.si .i64))], []⟩]
noncomputable def l_heldPuzzle_t : (List (Int) × Int) → T Int := fun (a_0, k) =>
  (.sub (l_heldIntS (a_0, k)) fun z0 =>
  (.test (decide (z0 < 0))
  (.ret (-1))
  (.ret z0)))
noncomputable def l_heldPuzzle (v : (List (Int) × Int)) : Option Int := (l_heldPuzzle_t v).run
noncomputable def l_heldPuzzle_E : TEnv := (E0.add1 n_l_heldIntS l_heldIntS_sh l_heldIntS_fo l_heldIntS)
theorem l_heldPuzzle_Eok : (l_heldPuzzle_E).OK := (E0ok.add1 l_heldIntS_ok)
noncomputable def l_heldPuzzle_told : Nat → Option SealT := fun id => none
theorem l_heldPuzzle_ok : FOK Try.prog n_l_heldPuzzle l_heldPuzzle_sh l_heldPuzzle_fo l_heldPuzzle :=
  fn_ok (E := l_heldPuzzle_E) (l_heldPuzzle_Eok) (told := l_heldPuzzle_told) (fl := []) (c := bodyOf fn_l_heldPuzzle) (s := l_heldPuzzle_sh) (l := l_heldPuzzle_fo) (tree := l_heldPuzzle_t) fnat_l_heldPuzzle (by kernel_rfl) (by kernel_rfl) (by kernel_rfl) (loopsOK_of (ls := []) (by kernel_rfl) trivial) (fun v => by kernel_rfl)

theorem l_heldPuzzle_eq (k : Int) (n : Nat) (hk : 0 ≤ k ∧ k < 1000000000000) (hl : n < 1000000000000000) : l_heldPuzzle (iot k n, k) = some (k + n) := by
  have : ¬ (k + (n : Int) < 0) := by omega
  simp [l_heldPuzzle, l_heldPuzzle_t, T.run, l_heldIntS_eq k n hk hl, this]


def l_FnExactParsePuzzle_sh : FSh := ⟨[(.one .ss)], []⟩

def l_FnExactParsePuzzle_fo : List FO := [⟨[(.one .sb)], []⟩]
noncomputable def l_FnExactParsePuzzle_t : List UInt8 → T Bool := fun aS =>
  (.test (decide (((List.length aS) : Int) > 1048576))
  (.ret true)
  (.sub (s_ParsePuzzle aS) fun z0 =>
   (.sub (i_ParsePuzzle aS) fun z1 =>
   (.test (decide ((0 + (List.length z1.2)) ≤ (List.length z1.2)))
   (.test (decide ((0 + (List.length z0.2)) ≤ (List.length z0.2)))
    (.sub (l_eqPuzzle ((win z1.2 0 (List.length z1.2)), (win z0.2 0 (List.length z0.2)))) fun z2 =>
     (.test (! z2)
     (.ret false)
     (.test (! (z1.1.2 == z0.1.2))
      (.ret false)
      (.test (decide ((0 = 0) ∧ ((List.length z1.2) = (List.length z1.2))))
       (.sub (l_markPuzzle (((), (1 : Int)), z1.2)) fun z3 =>
        (.test (decide ((0 + (List.length z1.2)) ≤ (List.length z3.2)))
        (.sub (l_heldPuzzle ((win z3.2 0 (List.length z1.2)), (1 : Int))) fun z4 =>
         (.test (decide (z4 < 0))
         (.ret false)
         (.test (z4 != z3.1)
          (.ret false)
          (.sub (i_ParsePuzzle aS) fun z5 =>
           (.test (decide ((0 + (List.length z5.2)) ≤ (List.length z5.2)))
           (.test (decide ((0 + (List.length z0.2)) ≤ (List.length z0.2)))
            (.sub (l_eqPuzzle ((win z5.2 0 (List.length z5.2)), (win z0.2 0 (List.length z0.2)))) fun z6 =>
             (.test (! z6)
             (.ret false)
             (.test (! (z5.1.2 == z0.1.2))
              (.ret false)
              (.test (decide ((0 + (List.length z1.2)) ≤ (List.length z3.2)))
               (.sub (l_heldPuzzle ((win z3.2 0 (List.length z1.2)), (1 : Int))) fun z7 =>
                (.test (decide (z7 < 0))
                (.ret false)
                (.test (z7 != z3.1)
                 (.ret false)
                 (.ret true))))
               .fail))))
            .fail)
           .fail)))))
        .fail))
       .fail))))
    .fail)
   .fail))))
noncomputable def l_FnExactParsePuzzle (v : List UInt8) : Option Bool := (l_FnExactParsePuzzle_t v).run
noncomputable def l_FnExactParsePuzzle_E : TEnv := (((((E0.add1 n_s_ParsePuzzle s_ParsePuzzle_sh s_ParsePuzzle_fo s_ParsePuzzle).add1 n_i_ParsePuzzle i_ParsePuzzle_sh i_ParsePuzzle_fo i_ParsePuzzle).add1 n_l_eqPuzzle l_eqPuzzle_sh l_eqPuzzle_fo l_eqPuzzle).add1 n_l_markPuzzle l_markPuzzle_sh l_markPuzzle_fo l_markPuzzle).add1 n_l_heldPuzzle l_heldPuzzle_sh l_heldPuzzle_fo l_heldPuzzle)
theorem l_FnExactParsePuzzle_Eok : (l_FnExactParsePuzzle_E).OK := (((((E0ok.add1 s_ParsePuzzle_ok).add1 i_ParsePuzzle_ok).add1 l_eqPuzzle_ok).add1 l_markPuzzle_ok).add1 l_heldPuzzle_ok)
noncomputable def l_FnExactParsePuzzle_told : Nat → Option SealT := fun id => none
theorem l_FnExactParsePuzzle_ok : FOK Try.prog n_l_FnExactParsePuzzle l_FnExactParsePuzzle_sh l_FnExactParsePuzzle_fo l_FnExactParsePuzzle :=
  fn_ok (E := l_FnExactParsePuzzle_E) (l_FnExactParsePuzzle_Eok) (told := l_FnExactParsePuzzle_told) (fl := []) (c := bodyOf fn_l_FnExactParsePuzzle) (s := l_FnExactParsePuzzle_sh) (l := l_FnExactParsePuzzle_fo) (tree := l_FnExactParsePuzzle_t) fnat_l_FnExactParsePuzzle (by kernel_rfl) (by kernel_rfl) (by kernel_rfl) (loopsOK_of (ls := []) (by kernel_rfl) trivial) (fun v => by kernel_rfl)

theorem l_FnExactParsePuzzle_true (v : List UInt8) (hs : smallL ASh.small [.one .ss] v) : l_FnExactParsePuzzle v = some true := by
  have hr := i_ParsePuzzle_eq v
  have hsp := s_ParsePuzzle_eq v
  have hl := pzRes_len v
  generalize pzRes v = r at *
  obtain ⟨ok, r⟩ := r
  simp only at hl hr hsp
  rw [l_FnExactParsePuzzle, l_FnExactParsePuzzle_t, T.run_test]
  split
  · rfl
  · have hl1 : r.length < 4611686018427387904 := by omega
    have hm := l_markPuzzle_eq 1 r (by omega) (by omega)
    have hh := l_heldPuzzle_eq 1 r.length (by omega) (by omega)
    have hw : win (iot 1 r.length) 0 r.length = iot 1 r.length := by have := win_all (iot 1 r.length); rwa [iot_len] at this
    have hx : ¬ ((1 : Int) + r.length < 0) := by omega
    simp (config := { maxSteps := 10000000 }) [T.run, win_all, hr, hsp, l_eqPuzzle_eq r r hl1, hm, iot_len, hw, hh, hx]


end Go.Proofs.W
