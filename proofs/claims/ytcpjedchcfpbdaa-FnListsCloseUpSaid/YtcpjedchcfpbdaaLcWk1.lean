/- Functions of the program, walked, and what they compute. -/
import Derived.Test.YtcpjedchcfpbdaaLcIds
set_option linter.unusedVariables false
set_option linter.unusedSimpArgs false
set_option maxRecDepth 100000
set_option maxHeartbeats 4000000
namespace Go.Proofs.W
open Go Go.Gm Go.Proofs
open Go.RowKit Go.Shelf
def iot (k : Int) (n : Nat) : List Int := (List.range n).map fun (i : Nat) => k + (i : Int)
theorem iot_len (k : Int) (n : Nat) : (iot k n).length = n := by simp [iot]
theorem iot_succ (k : Int) (n : Nat) : iot k (n + 1) = iot k n ++ [k + n] := by simp [iot, List.range_succ]
theorem iot_get (k : Int) {n i : Nat} (h : i < n) : (iot k n)[i]? = some (k + i) := by simp [iot, h]
theorem gcd_toNat_step {a b : Int} (ha : 0 ≤ a) (hb : 0 < b) : Nat.gcd b.toNat (Int.tmod a b).toNat = Nat.gcd a.toNat b.toNat ∧ 0 ≤ Int.tmod a b ∧ Int.tmod a b < b := by
  obtain ⟨m, rfl⟩ := Int.eq_ofNat_of_zero_le ha
  obtain ⟨n, rfl⟩ := Int.eq_ofNat_of_zero_le (Int.le_of_lt hb)
  have e : Int.tmod (m : Int) (n : Int) = ((m % n : Nat) : Int) := rfl
  rw [e]
  simp only [Int.toNat_natCast]
  refine ⟨?_, Int.natCast_nonneg _, ?_⟩
  · rw [Nat.gcd_comm m n, Nat.gcd_rec n m, Nat.gcd_comm]
  · have : n ≠ 0 := by omega
    exact Int.ofNat_lt.2 (Nat.mod_lt m (by omega))
def lowP (num den : Int) : Bool := inB 1 1000000 num && (inB 1 1000000 den && decide (Nat.gcd num.toNat den.toNat = 1))
def upQ (num den : Int) : Int := (num + den - 1) / den
theorem upQ_B {num den : Int} (hn : 1 ≤ num) (hd : 1 ≤ den) : 1 ≤ upQ num den ∧ upQ num den ≤ num ∧ num ≤ upQ num den * den ∧ upQ num den * den - num < den := by
  have h1 := Int.mul_ediv_add_emod (num + den - 1) den
  have h2 := Int.emod_nonneg (num + den - 1) (show den ≠ 0 by omega)
  have h3 := Int.emod_lt_of_pos (num + den - 1) (show 0 < den by omega)
  have h4 : 1 ≤ upQ num den := by
    unfold upQ
    exact (Int.le_ediv_iff_mul_le (by omega)).2 (by omega)
  have h5 : den * upQ num den = upQ num den * den := Int.mul_comm ..
  have h6 : upQ num den ≤ num := by
    unfold upQ
    refine Int.ediv_le_of_le_mul (by omega) ?_
    have : 0 ≤ (num - 1) * (den - 1) := Int.mul_nonneg (by omega) (by omega)
    rw [Int.sub_mul, Int.mul_sub] at this
    omega
  unfold upQ at *
  omega
def posT (l : List Int) : Bool := isTerms l && (decide (l ≠ []) && l.all (inB 1 30))
theorem isPz_len {l : List Int} (h : isPz l = true) : 3 ≤ l.length ∧ l.length ≤ 9 := by
  simp only [isPz, Bool.and_eq_true, inB_iff] at h
  omega
def fillG (l : List Int) (at' n : Int) : Bool × List Int := if isPz l && (inB 0 ((l.length : Int) - 1) at' && (inB 1 ((l.length : Int) - 2) n && decide (l[at'.toNat]? = some 0))) then (true, l.set at'.toNat n) else (false, [])
def openG (l : List Int) (at' : Int) : Bool × List Int := if isPz l && (inB 0 ((l.length : Int) - 1) at' && decide (l[at'.toNat]? ≠ some 0)) then (true, l.set at'.toNat 0) else (false, [])
theorem at_get0 {α : Type} (L : List α) (x : α) (t : List α) : (L ++ x :: t)[L.length]? = some x := by simp
theorem at_get1 {α : Type} (L : List α) (x y : α) (t : List α) : (L ++ x :: y :: t)[L.length + 1]? = some y := by
  rw [List.getElem?_append_right (by omega), show L.length + 1 - L.length = 1 by omega]; rfl
theorem at_get2 {α : Type} (L : List α) (x y z : α) (t : List α) : (L ++ x :: y :: z :: t)[L.length + 2]? = some z := by
  rw [List.getElem?_append_right (by omega), show L.length + 2 - L.length = 2 by omega]; rfl
theorem at_set0 {α : Type} (L : List α) (x v : α) (t : List α) : (L ++ x :: t).set L.length v = L ++ v :: t := by simp
theorem at_set1 {α : Type} (L : List α) (x y v : α) (t : List α) : (L ++ x :: y :: t).set (L.length + 1) v = L ++ x :: v :: t := by
  rw [List.set_append_right _ _ (by omega), show L.length + 1 - L.length = 1 by omega]; rfl
theorem at_set2 {α : Type} (L : List α) (x y z v : α) (t : List α) : (L ++ x :: y :: z :: t).set (L.length + 2) v = L ++ x :: y :: v :: t := by
  rw [List.set_append_right _ _ (by omega), show L.length + 2 - L.length = 2 by omega]; rfl
theorem at_take1 {α : Type} (L : List α) (x : α) (t : List α) : (L ++ x :: t).take (L.length + 1) = L ++ [x] := by
  rw [List.take_append, List.take_of_length_le (by omega), show L.length + 1 - L.length = 1 by omega]; rfl
theorem at_drop2 {α : Type} (L : List α) (x y : α) (t : List α) : (L ++ x :: y :: t).drop (L.length + 2) = t := by
  rw [List.drop_append, List.drop_of_length_le (by omega), show L.length + 2 - L.length = 2 by omega]; rfl
theorem at_split {α : Type} (l : List α) (k : Nat) (h : k + 2 < l.length) : ∃ L x m y R, l = L ++ x :: m :: y :: R ∧ L.length = k := by
  refine ⟨l.take k, l[k], l[k + 1], l[k + 2], l.drop (k + 3), ?_, by simp; omega⟩
  rw [← List.drop_eq_getElem_cons, ← List.drop_eq_getElem_cons, ← List.drop_eq_getElem_cons, List.take_append_drop]
theorem at_split1 {α : Type} (l : List α) (k : Nat) (h : k + 1 < l.length) : ∃ L x y R, l = L ++ x :: y :: R ∧ L.length = k := by
  refine ⟨l.take k, l[k], l[k + 1], l.drop (k + 2), ?_, by simp; omega⟩
  rw [← List.drop_eq_getElem_cons, ← List.drop_eq_getElem_cons, List.take_append_drop]
theorem at_drop1 {α : Type} (L : List α) (x : α) (t : List α) : (L ++ x :: t).drop (L.length + 1) = t := by
  rw [List.drop_append, List.drop_of_length_le (by omega), show L.length + 1 - L.length = 1 by omega]; rfl
theorem loop_listI {α β σ X : Type} {step : α → Option (α ⊕ β)} {xs : List X} (P : Nat → σ → Prop) (emb : Nat → σ → α) (body : σ → X → σ ⊕ β) (fin : σ → β)
    (hs : ∀ k s x, P k s → xs[k]? = some x → step (emb k s) = some (match body s x with | .inl s' => .inl (emb (k + 1) s') | .inr o => .inr o) ∧ ∀ s', body s x = .inl s' → P (k + 1) s')
    (he : ∀ s, P xs.length s → step (emb xs.length s) = some (.inr (fin s))) : ∀ k s, k ≤ xs.length → P k s → loopO step (emb k s) = some (forE body fin (xs.drop k) s) := by
  have key : ∀ n k s, n = xs.length - k → k ≤ xs.length → P k s → loopO step (emb k s) = some (forE body fin (xs.drop k) s) := by
    intro n
    induction n with
    | zero =>
      intro k s hn hk hP
      have : k = xs.length := by omega
      subst this
      rw [loopO_step, he _ hP, List.drop_length]
      rfl
    | succ n ih =>
      intro k s hn hk hP
      have hlt : k < xs.length := by omega
      obtain ⟨h1, h2⟩ := hs k s xs[k] hP (List.getElem?_eq_getElem hlt)
      rw [loopO_step, h1, List.drop_eq_getElem_cons hlt, forE_cons]
      cases hb : body s xs[k] with
      | inl s' => simp only []; exact ih (k + 1) s' (by omega) (by omega) (h2 s' hb)
      | inr o => rfl
  exact fun k s hk hP => key _ k s rfl hk hP
def pzCell (b : UInt8) : Option Int := if b.toNat = 46 then some 0 else if 49 ≤ b.toNat ∧ b.toNat ≤ 57 then some ((b.toNat : Int) - 48) else none
def pzRead : List UInt8 → Option (List Int)
  | [] => some []
  | b :: t => match pzCell b with
    | some z => (pzRead t).map (z :: ·)
    | none => none
theorem forE_pz {β : Type} (fin : List Int → β) (o : β) : ∀ (l : List UInt8) (acc : List Int), forE (fun acc b => match pzCell b with | some z => .inl (acc ++ [z]) | none => .inr o) fin l acc = match pzRead l with | some r => fin (acc ++ r) | none => o
  | [], acc => by simp [forE, pzRead]
  | b :: t, acc => by
    rw [forE_cons, pzRead]
    cases hc : pzCell b with
    | none => rfl
    | some z =>
      simp only []
      rw [forE_pz fin o t]
      cases pzRead t with
      | none => rfl
      | some r => simp
def pzRes (s : List UInt8) : Bool × List Int := if s.length > 9 then (false, []) else match pzRead s with
  | none => (false, [])
  | some r => if isPz r then (true, r) else (false, [])
theorem pzRead_len : ∀ {s : List UInt8} {r : List Int}, pzRead s = some r → r.length = s.length
  | [], r, h => by cases h; rfl
  | b :: t, r, h => by
    rw [pzRead] at h
    split at h
    · obtain ⟨r', h1, rfl⟩ := Option.map_eq_some_iff.1 h
      simp [pzRead_len h1]
    · cases h
theorem pzRes_len (s : List UInt8) : (pzRes s).2.length ≤ 9 := by
  unfold pzRes
  split
  · simp
  · split
    · simp
    · rename_i h
      have := pzRead_len h
      split
      · simp; omega
      · simp
theorem bytesI_get {s : List UInt8} {k : Nat} {b : UInt8} (h : s[k]? = some b) : (bytesI s)[k]? = some (b.toNat : Int) := by unfold bytesI; rw [List.getElem?_map, h]; rfl
theorem bytesI_len (s : List UInt8) : (bytesI s).length = s.length := by unfold bytesI; simp
def fits (p q : List Int) : Bool := decide (p.length = q.length) && !(p.zip q).any fun x => !(x.1 == 0 || x.1 == x.2)
def turnG (l : List Int) (k : Int) : Bool × List Int := if isPz l && inB 0 ((l.length : Int) - 1) k then (true, l.drop k.toNat ++ l.take k.toNat) else (false, [])
theorem turn_facts {l : List Int} {k : Int} (hp : isPz l = true) (hk : inB 0 ((l.length : Int) - 1) k = true) : win l k.toNat (l.length - k.toNat) = l.drop k.toNat ∧ win l 0 (k.toNat - 0) = l.take k.toNat ∧ 0 ≤ k ∧ k.toNat ≤ l.length ∧ l.length ≤ 9 := by
  have := isPz_len hp
  rw [inB_iff] at hk
  refine ⟨?_, win_take _ _, hk.1, by omega, this.2⟩
  unfold win
  rw [List.take_of_length_le (by rw [List.length_drop]; omega)]
def iotD (k : Int) (n : Nat) : List (Int × Int) := (List.range n).map fun (i : Nat) => (k + 2 * (i : Int), k + 2 * (i : Int) + 1)
theorem iotD_len (k : Int) (n : Nat) : (iotD k n).length = n := by simp [iotD]
theorem iotD_succ (k : Int) (n : Nat) : iotD k (n + 1) = iotD k n ++ [(k + 2 * (n : Int), k + 2 * (n : Int) + 1)] := by simp [iotD, List.range_succ]
theorem iotD_get (k : Int) {n i : Nat} (h : i < n) : (iotD k n)[i]? = some (k + 2 * (i : Int), k + 2 * (i : Int) + 1) := by simp [iotD, h]
theorem zip_any_neD : ∀ (a b : List (Int × Int)), a.length = b.length → ((a.zip b).any fun p => !(decide (p.1 = p.2))) = !decide (a = b)
  | [], [], _ => rfl
  | x :: a, y :: b, h => by
    have ih := zip_any_neD a b (by simpa using h)
    rw [List.zip_cons_cons, List.any_cons, ih]
    by_cases hx : x = y <;> simp [hx]

def l_big_sh : FSh := ⟨[(.one (.sl (.int .u8) false false)), (.one (.sl (.int .u8) false false))], []⟩

def l_big_fo : List FO := [⟨[(.one .sb)], []⟩]
noncomputable def l_big_t : (List (Int) × List (Int)) → T Bool := fun (code, more) =>
  (.test (decide (((List.length code) : Int) > 1048576))
  (.ret true)
  (.ret (decide (((List.length more) : Int) > (w64 (1048576 - ((List.length code) : Int)))))))
noncomputable def l_big (v : (List (Int) × List (Int))) : Option Bool := (l_big_t v).run
noncomputable def l_big_E : TEnv := E0
theorem l_big_Eok : (l_big_E).OK := E0ok
noncomputable def l_big_told : Nat → Option SealT := fun id => none
theorem l_big_ok : FOK Try.prog n_l_big l_big_sh l_big_fo l_big :=
  fn_ok (E := l_big_E) (l_big_Eok) (told := l_big_told) (fl := []) (c := bodyOf fn_l_big) (s := l_big_sh) (l := l_big_fo) (tree := l_big_t) fnat_l_big (by kernel_rfl) (by kernel_rfl) (by kernel_rfl) (loopsOK_of (ls := []) (by kernel_rfl) trivial) (fun v => by kernel_rfl)

def s_l1Cur_next_sh : FSh := ⟨[(.one (.pf 0 0 0))], [(.rcd 0 [(.sl (.int .u8) false true), (.si .i64), (.si .u64)])]⟩

def s_l1Cur_next_fo : List FO := [⟨[(.one (.si .i64))], [(.rcd 0 [(.sl (.int .u8) false true), (.si .i64), (.si .u64)])]⟩]
noncomputable def s_l1Cur_next_t : (Unit × (List (Int) × Int × Int)) → T (Int × (List (Int) × Int × Int)) := fun ((), (c_0, c_1, c_2)) =>
  (.test (decide (c_1 < ((List.length c_0) : Int)))
  (.test (decide ((0 ≤ c_1) ∧ (c_1 < ((List.length c_0) : Int))))
   (.sub (c_0[(Int.toNat c_1)]?) fun z0 =>
    (.test (decide ((w64 (c_1 + 1)) ≤ ((List.length c_0) : Int)))
    (.ret ((w64 z0), (c_0, ((w64 (c_1 + 1)), (wu64 ((wu64 ((wu64 (c_2 * 6364136223846793005)) + (wu64 (w64 z0)))) + 1442695040888963407))))))
    (.ret ((w64 (wu64 (((Int.toNat ((Int.rec
  (fun a =>
    (fun a =>
        Nat.casesOn a ((fun x => 0) (2 ^ min (Int.toNat 40) IntKind.u64.bits)) fun n =>
          Int.casesOn (2 ^ min (Int.toNat 40) IntKind.u64.bits) (fun a => (fun m n => Int.ofNat (m / n)) n.succ a)
            fun a => (fun m n => Int.negSucc (m / n.succ)) n a)
      a)
  (fun a =>
    (fun a =>
        Int.casesOn (2 ^ min (Int.toNat 40) IntKind.u64.bits)
          (fun a_1 => Nat.casesOn a_1 ((fun a => 0) a) fun n => (fun m n => Int.negSucc (m / n.succ)) a n) fun a_1 =>
          (fun m n => Int.ofNat (m.succ / n.succ)) a a_1)
      a)
  (IntKind.u64.wrap
    (IntKind.u64.wrap
        (IntKind.u64.wrap (c_2 * Int.ofNat 6364136223846793005) + IntKind.u64.wrap (IntKind.i64.wrap z0)) +
      Int.ofNat 1442695040888963407))) % 18446744073709551616)) &&& 255 : Nat) : Int))), (c_0, ((w64 (c_1 + 1)), (wu64 ((wu64 ((wu64 (c_2 * 6364136223846793005)) + (wu64 (w64 z0)))) + 1442695040888963407))))))))
   .fail)
  (.test (decide ((w64 (c_1 + 1)) ≤ ((List.length c_0) : Int)))
   (.ret ((0 : Int), (c_0, ((w64 (c_1 + 1)), (wu64 ((wu64 ((wu64 (c_2 * 6364136223846793005)) + 0)) + 1442695040888963407))))))
   (.ret ((w64 (wu64 (((Int.toNat ((Int.rec
  (fun a =>
    (fun a =>
        Nat.casesOn a ((fun x => 0) (2 ^ min (Int.toNat 40) IntKind.u64.bits)) fun n =>
          Int.casesOn (2 ^ min (Int.toNat 40) IntKind.u64.bits) (fun a => (fun m n => Int.ofNat (m / n)) n.succ a)
            fun a => (fun m n => Int.negSucc (m / n.succ)) n a)
      a)
  (fun a =>
    (fun a =>
        Int.casesOn (2 ^ min (Int.toNat 40) IntKind.u64.bits)
          (fun a_1 => Nat.casesOn a_1 ((fun a => 0) a) fun n => (fun m n => Int.negSucc (m / n.succ)) a n) fun a_1 =>
          (fun m n => Int.ofNat (m.succ / n.succ)) a a_1)
      a)
  (IntKind.u64.wrap
    (IntKind.u64.wrap (IntKind.u64.wrap (c_2 * Int.ofNat 6364136223846793005) + Int.ofNat 0) +
      Int.ofNat 1442695040888963407))) % 18446744073709551616)) &&& 255 : Nat) : Int))), (c_0, ((w64 (c_1 + 1)), (wu64 ((wu64 ((wu64 (c_2 * 6364136223846793005)) + 0)) + 1442695040888963407))))))))
noncomputable def s_l1Cur_next (v : (Unit × (List (Int) × Int × Int))) : Option (Int × (List (Int) × Int × Int)) := (s_l1Cur_next_t v).run
noncomputable def s_l1Cur_next_E : TEnv := E0
theorem s_l1Cur_next_Eok : (s_l1Cur_next_E).OK := E0ok
noncomputable def s_l1Cur_next_told : Nat → Option SealT := fun id => none
theorem s_l1Cur_next_ok : FOK Try.prog n_s_l1Cur_next s_l1Cur_next_sh s_l1Cur_next_fo s_l1Cur_next :=
  fn_ok (E := s_l1Cur_next_E) (s_l1Cur_next_Eok) (told := s_l1Cur_next_told) (fl := []) (c := bodyOf fn_s_l1Cur_next) (s := s_l1Cur_next_sh) (l := s_l1Cur_next_fo) (tree := s_l1Cur_next_t) fnat_s_l1Cur_next (by kernel_rfl) (by kernel_rfl) (by kernel_rfl) (loopsOK_of (ls := []) (by kernel_rfl) trivial) (fun v => by kernel_rfl)

def s_l1Cur_pick_sh : FSh := ⟨[(.one (.pf 0 0 0)), (.one (.si .i64))], [(.rcd 0 [(.sl (.int .u8) false true), (.si .i64), (.si .u64)])]⟩

def s_l1Cur_pick_fo : List FO := [⟨[(.one (.si .i64))], [(.rcd 0 [(.sl (.int .u8) false true), (.si .i64), (.si .u64)])]⟩]
noncomputable def s_l1Cur_pick_t : ((Unit × Int) × (List (Int) × Int × Int)) → T (Int × (List (Int) × Int × Int)) := fun (((), n), (c_0, c_1, c_2)) =>
  (.test (decide (n ≤ 1))
  (.ret ((0 : Int), (c_0, (c_1, c_2))))
  (.sub (s_l1Cur_next ((), (c_0, (c_1, c_2)))) fun z0 =>
   (.test (decide (n > 200))
   (.sub (s_l1Cur_next ((), (z0.2.1, (z0.2.2.1, z0.2.2.2)))) fun z1 =>
    (.test (decide (n ≠ 0))
    (.ret ((Int.tmod (w64 ((w64 (z0.1 * 256)) + z1.1)) n), (z1.2.1, (z1.2.2.1, z1.2.2.2))))
    .fail))
   (.test (decide (n ≠ 0))
    (.ret ((Int.tmod z0.1 n), (z0.2.1, (z0.2.2.1, z0.2.2.2))))
    .fail))))
noncomputable def s_l1Cur_pick (v : ((Unit × Int) × (List (Int) × Int × Int))) : Option (Int × (List (Int) × Int × Int)) := (s_l1Cur_pick_t v).run
noncomputable def s_l1Cur_pick_E : TEnv := (E0.add1 n_s_l1Cur_next s_l1Cur_next_sh s_l1Cur_next_fo s_l1Cur_next)
theorem s_l1Cur_pick_Eok : (s_l1Cur_pick_E).OK := (E0ok.add1 s_l1Cur_next_ok)
noncomputable def s_l1Cur_pick_told : Nat → Option SealT := fun id => none
theorem s_l1Cur_pick_ok : FOK Try.prog n_s_l1Cur_pick s_l1Cur_pick_sh s_l1Cur_pick_fo s_l1Cur_pick :=
  fn_ok (E := s_l1Cur_pick_E) (s_l1Cur_pick_Eok) (told := s_l1Cur_pick_told) (fl := []) (c := bodyOf fn_s_l1Cur_pick) (s := s_l1Cur_pick_sh) (l := s_l1Cur_pick_fo) (tree := s_l1Cur_pick_t) fnat_s_l1Cur_pick (by kernel_rfl) (by kernel_rfl) (by kernel_rfl) (loopsOK_of (ls := []) (by kernel_rfl) trivial) (fun v => by kernel_rfl)

def s_l1Cur_among_sh : FSh := ⟨[(.one (.pf 0 0 0)), (.one (.sl (.int .i64) false false))], [(.rcd 0 [(.sl (.int .u8) false true), (.si .i64), (.si .u64)])]⟩

def s_l1Cur_among_fo : List FO := [⟨[(.one (.si .i64))], [(.rcd 0 [(.sl (.int .u8) false true), (.si .i64), (.si .u64)])]⟩]
noncomputable def s_l1Cur_among_t : ((Unit × List (Int)) × (List (Int) × Int × Int)) → T (Int × (List (Int) × Int × Int)) := fun (((), list), (c_0, c_1, c_2)) =>
  (.sub (s_l1Cur_pick (((), ((List.length list) : Int)), (c_0, (c_1, c_2)))) fun z0 =>
  (.test (decide ((0 ≤ z0.1) ∧ (z0.1 < ((List.length list) : Int))))
  (.sub (list[(Int.toNat z0.1)]?) fun z1 =>
   (.ret (z1, (z0.2.1, (z0.2.2.1, z0.2.2.2)))))
  .fail))
noncomputable def s_l1Cur_among (v : ((Unit × List (Int)) × (List (Int) × Int × Int))) : Option (Int × (List (Int) × Int × Int)) := (s_l1Cur_among_t v).run
noncomputable def s_l1Cur_among_E : TEnv := (E0.add1 n_s_l1Cur_pick s_l1Cur_pick_sh s_l1Cur_pick_fo s_l1Cur_pick)
theorem s_l1Cur_among_Eok : (s_l1Cur_among_E).OK := (E0ok.add1 s_l1Cur_pick_ok)
noncomputable def s_l1Cur_among_told : Nat → Option SealT := fun id => none
theorem s_l1Cur_among_ok : FOK Try.prog n_s_l1Cur_among s_l1Cur_among_sh s_l1Cur_among_fo s_l1Cur_among :=
  fn_ok (E := s_l1Cur_among_E) (s_l1Cur_among_Eok) (told := s_l1Cur_among_told) (fl := []) (c := bodyOf fn_s_l1Cur_among) (s := s_l1Cur_among_sh) (l := s_l1Cur_among_fo) (tree := s_l1Cur_among_t) fnat_s_l1Cur_among (by kernel_rfl) (by kernel_rfl) (by kernel_rfl) (loopsOK_of (ls := []) (by kernel_rfl) trivial) (fun v => by kernel_rfl)

def s_l1Cur_terms_sh : FSh := ⟨[(.one (.pf 0 0 0)), (.one (.si .i64)), (.one (.si .i64))], [(.rcd 0 [(.sl (.int .u8) false true), (.si .i64), (.si .u64)])]⟩

def s_l1Cur_terms_L3_sh : LSh := ⟨(fun ex => match ex with | .norm => [(0, none), (1, none), (2, none), (7, none), (8, none)] | .exit i => if i = 0 then [(0, none), (7, none)] else [] | .ret => [(6, none)]), [(0, (.one (.pf 0 0 0))), (1, (.one (.si .i64))), (2, (.one (.si .i64))), (7, (.one (.rw 1 0))), (8, (.one (.si .i64)))], [(.rcd 0 [(.sl (.int .u8) false true), (.si .i64), (.si .u64)]), (.row 0 (.int .i64))], [⟨(.exit 0), [(0, (.one (.pf 0 0 0))), (7, (.one (.rw 1 0)))], [(.rcd 0 [(.sl (.int .u8) false true), (.si .i64), (.si .u64)]), (.row 0 (.int .i64))]⟩], [], []⟩
noncomputable def s_l1Cur_terms_L3_step : ((Unit × Int × Int × Unit × Int) × ((List (Int) × Int × Int) × List (Int))) → T (((Unit × Int × Int × Unit × Int) × ((List (Int) × Int × Int) × List (Int))) ⊕ ((Unit × Unit) × ((List (Int) × Int × Int) × List (Int)))) := fun (((), low, high, (), k), ((c_0, c_1, c_2), out)) =>
  (.test (decide (k > 0))
  (.sub (s_l1Cur_pick (((), (w64 ((w64 (high - low)) + 1))), (c_0, (c_1, c_2)))) fun z0 =>
   (.test (decide (1 ≤ (List.length (List.set (List.replicate 1 (0 : Int)) 0 (w64 (low + z0.1))))))
   (.test (decide ((0 + (List.length out)) ≤ (List.length out)))
    (.test (decide ((2 * (((List.length out) + (List.length (win (List.set (List.replicate 1 (0 : Int)) 0 (w64 (low + z0.1))) 0 1))) * 9)) ≤ 140737488355328))
     (.test (decide ((0 = 0) ∧ (((List.length out) + (List.length (win (List.set (List.replicate 1 (0 : Int)) 0 (w64 (low + z0.1))) 0 1))) = (List.length ((win out 0 (List.length out)) ++ (win (List.set (List.replicate 1 (0 : Int)) 0 (w64 (low + z0.1))) 0 1))))))
      (.ret (Sum.inl (((), (low, (high, ((), (w64 (k - 1)))))), ((z0.2.1, (z0.2.2.1, z0.2.2.2)), ((win out 0 (List.length out)) ++ (win (List.set (List.replicate 1 (0 : Int)) 0 (w64 (low + z0.1))) 0 1))))))
      .fail)
     .fail)
    .fail)
   .fail))
  (.test (decide ((0 = 0) ∧ ((List.length out) = (List.length out))))
   (.ret (Sum.inr (((), ()), ((c_0, (c_1, c_2)), out))))
   .fail))
noncomputable def s_l1Cur_terms_L3 (v : ((Unit × Int × Int × Unit × Int) × ((List (Int) × Int × Int) × List (Int)))) : Option ((Unit × Unit) × ((List (Int) × Int × Int) × List (Int))) := loopO (fun v => (s_l1Cur_terms_L3_step v).run) v

def s_l1Cur_terms_L10_sh : LSh := ⟨(fun ex => match ex with | .norm => [(0, none), (7, none)] | .exit i => if i = 3 then [(7, none)] else if i = 2 then [(7, none)] else [] | .ret => [(6, none)]), [(0, (.one (.pf 0 0 0))), (7, (.one (.rw 1 0)))], [(.rcd 0 [(.sl (.int .u8) false true), (.si .i64), (.si .u64)]), (.row 0 (.int .i64))], [⟨(.exit 3), [(7, (.one (.rw 1 0)))], [(.rcd 0 [(.sl (.int .u8) false true), (.si .i64), (.si .u64)]), (.row 0 (.int .i64))]⟩], [], []⟩
noncomputable def s_l1Cur_terms_L10_step : ((Unit × Unit) × ((List (Int) × Int × Int) × List (Int))) → T (((Unit × Unit) × ((List (Int) × Int × Int) × List (Int))) ⊕ (Unit × ((List (Int) × Int × Int) × List (Int)))) := fun (((), ()), ((c_0, c_1, c_2), out)) =>
  (.sub (s_l1Cur_pick (((), (2 : Int)), (c_0, (c_1, c_2)))) fun z0 =>
  (.test (decide (((List.length out) : Int) < (w64 (10 + z0.1))))
  (.test true
   (.test (decide ((0 + (List.length out)) ≤ (List.length out)))
    (.test (decide ((2 * (((List.length out) + 1) * 9)) ≤ 140737488355328))
     (.test (decide ((0 = 0) ∧ (((List.length out) + 1) = (List.length ((win out 0 (List.length out)) ++ (win (List.set (List.replicate 1 (0 : Int)) 0 (2 : Int)) 0 1))))))
      (.ret (Sum.inl (((), ()), ((z0.2.1, (z0.2.2.1, z0.2.2.2)), ((win out 0 (List.length out)) ++ (win (List.set (List.replicate 1 (0 : Int)) 0 (2 : Int)) 0 1))))))
      .fail)
     .fail)
    .fail)
   .fail)
  (.test (decide ((0 = 0) ∧ ((List.length out) = (List.length out))))
   (.ret (Sum.inr ((), ((z0.2.1, (z0.2.2.1, z0.2.2.2)), out))))
   .fail)))
noncomputable def s_l1Cur_terms_L10 (v : ((Unit × Unit) × ((List (Int) × Int × Int) × List (Int)))) : Option (Unit × ((List (Int) × Int × Int) × List (Int))) := loopO (fun v => (s_l1Cur_terms_L10_step v).run) v

def s_l1Cur_terms_L13_sh : LSh := ⟨(fun ex => match ex with | .norm => [(7, none)] | .exit i => if i = 5 then [(7, none)] else if i = 2 then [(7, none)] else [] | .ret => [(6, none)]), [(7, (.one (.rw 1 0)))], [(.rcd 0 [(.sl (.int .u8) false true), (.si .i64), (.si .u64)]), (.row 0 (.int .i64))], [⟨(.exit 5), [(7, (.one (.rw 1 0)))], [(.rcd 0 [(.sl (.int .u8) false true), (.si .i64), (.si .u64)]), (.row 0 (.int .i64))]⟩], [], []⟩
noncomputable def s_l1Cur_terms_L13_step : (Unit × ((List (Int) × Int × Int) × List (Int))) → T ((Unit × ((List (Int) × Int × Int) × List (Int))) ⊕ (Unit × ((List (Int) × Int × Int) × List (Int)))) := fun ((), ((r0_0, r0_1, r0_2), out)) =>
  (.test (decide (((List.length out) : Int) < 10))
  (.test true
   (.test (decide ((0 + (List.length out)) ≤ (List.length out)))
    (.test (decide ((2 * (((List.length out) + 1) * 9)) ≤ 140737488355328))
     (.test (decide ((0 = 0) ∧ (((List.length out) + 1) = (List.length ((win out 0 (List.length out)) ++ (win (List.set (List.replicate 1 (0 : Int)) 0 (30 : Int)) 0 1))))))
      (.ret (Sum.inl ((), ((r0_0, (r0_1, r0_2)), ((win out 0 (List.length out)) ++ (win (List.set (List.replicate 1 (0 : Int)) 0 (30 : Int)) 0 1))))))
      .fail)
     .fail)
    .fail)
   .fail)
  (.test (decide ((0 = 0) ∧ ((List.length out) = (List.length out))))
   (.ret (Sum.inr ((), ((r0_0, (r0_1, r0_2)), out))))
   .fail))
noncomputable def s_l1Cur_terms_L13 (v : (Unit × ((List (Int) × Int × Int) × List (Int)))) : Option (Unit × ((List (Int) × Int × Int) × List (Int))) := loopO (fun v => (s_l1Cur_terms_L13_step v).run) v

def s_l1Cur_terms_fo : List FO := [⟨[(.one (.rw 1 0))], [(.rcd 0 [(.sl (.int .u8) false true), (.si .i64), (.si .u64)]), (.row 0 (.int .i64))]⟩]
noncomputable def s_l1Cur_terms_t : ((Unit × Int × Int) × (List (Int) × Int × Int)) → T (Unit × ((List (Int) × Int × Int) × List (Int))) := fun (((), low, high), (c_0, c_1, c_2)) =>
  (.sub (s_l1Cur_pick (((), (8 : Int)), (c_0, (c_1, c_2)))) fun z0 =>
  (.test (decide ((0 = 0) ∧ (0 = (List.length ([] : List (Int))))))
  (.sub (s_l1Cur_terms_L3 (((), (low, (high, ((), z0.1)))), ((z0.2.1, (z0.2.2.1, z0.2.2.2)), ([] : List (Int))))) fun z1 =>
   (.sub (s_l1Cur_pick (((), (14 : Int)), (z1.2.1.1, (z1.2.1.2.1, z1.2.1.2.2)))) fun z2 =>
   (.test (z2.1 == 0)
   (.test true
    (.sub (s_l1Cur_among (((), (win (List.set (List.set (List.set (List.set (List.replicate 4 (0 : Int)) 0 (30 : Int)) 1 (31 : Int)) 2 (-30)) 3 (-9223372036854775808)) 0 4)), (z2.2.1, (z2.2.2.1, z2.2.2.2)))) fun z3 =>
     (.test (decide (1 ≤ (List.length (List.set (List.replicate 1 (0 : Int)) 0 z3.1))))
     (.test (decide ((0 + (List.length z1.2.2)) ≤ (List.length z1.2.2)))
      (.test (decide ((2 * (((List.length z1.2.2) + (List.length (win (List.set (List.replicate 1 (0 : Int)) 0 z3.1) 0 1))) * 9)) ≤ 140737488355328))
       (.test (decide ((0 = 0) ∧ (((List.length z1.2.2) + (List.length (win (List.set (List.replicate 1 (0 : Int)) 0 z3.1) 0 1))) = (List.length ((win z1.2.2 0 (List.length z1.2.2)) ++ (win (List.set (List.replicate 1 (0 : Int)) 0 z3.1) 0 1))))))
        (.ret ((), ((z3.2.1, (z3.2.2.1, z3.2.2.2)), ((win z1.2.2 0 (List.length z1.2.2)) ++ (win (List.set (List.replicate 1 (0 : Int)) 0 z3.1) 0 1)))))
        .fail)
       .fail)
      .fail)
     .fail))
    .fail)
   (.test (z2.1 == 1)
    (.test (decide ((0 = 0) ∧ ((List.length z1.2.2) = (List.length z1.2.2))))
     (.sub (s_l1Cur_terms_L10 (((), ()), ((z2.2.1, (z2.2.2.1, z2.2.2.2)), z1.2.2))) fun z4 =>
      (.test (decide ((0 = 0) ∧ ((List.length z4.2.2) = (List.length z4.2.2))))
      (.ret ((), ((z4.2.1.1, (z4.2.1.2.1, z4.2.1.2.2)), z4.2.2)))
      .fail))
     .fail)
    (.test (z2.1 == 2)
     (.test (decide ((0 = 0) ∧ ((List.length z1.2.2) = (List.length z1.2.2))))
      (.sub (s_l1Cur_terms_L13 ((), ((z2.2.1, (z2.2.2.1, z2.2.2.2)), z1.2.2))) fun z5 =>
       (.test (decide ((0 = 0) ∧ ((List.length z5.2.2) = (List.length z5.2.2))))
       (.ret ((), ((z5.2.1.1, (z5.2.1.2.1, z5.2.1.2.2)), z5.2.2)))
       .fail))
      .fail)
     (.test (decide ((0 = 0) ∧ ((List.length z1.2.2) = (List.length z1.2.2))))
      (.ret ((), ((z2.2.1, (z2.2.2.1, z2.2.2.2)), z1.2.2)))
      .fail))))))
  .fail))
noncomputable def s_l1Cur_terms (v : ((Unit × Int × Int) × (List (Int) × Int × Int))) : Option (Unit × ((List (Int) × Int × Int) × List (Int))) := (s_l1Cur_terms_t v).run
noncomputable def s_l1Cur_terms_E : TEnv := ((E0.add1 n_s_l1Cur_pick s_l1Cur_pick_sh s_l1Cur_pick_fo s_l1Cur_pick).add1 n_s_l1Cur_among s_l1Cur_among_sh s_l1Cur_among_fo s_l1Cur_among)
theorem s_l1Cur_terms_Eok : (s_l1Cur_terms_E).OK := ((E0ok.add1 s_l1Cur_pick_ok).add1 s_l1Cur_among_ok)
noncomputable def s_l1Cur_terms_told : Nat → Option SealT := fun id => if id = 3 then some (LSh.told s_l1Cur_terms_L3_sh 1 (s_l1Cur_terms_L3_step)) else if id = 10 then some (LSh.told s_l1Cur_terms_L10_sh 1 (s_l1Cur_terms_L10_step)) else if id = 13 then some (LSh.told s_l1Cur_terms_L13_sh 1 (s_l1Cur_terms_L13_step)) else none
theorem s_l1Cur_terms_L3_ok : ToldOK Try.prog 1 (loopAt (bodyOf fn_s_l1Cur_terms) [0]) (LSh.told s_l1Cur_terms_L3_sh 1 (s_l1Cur_terms_L3_step)) :=
  loop_ok (E := s_l1Cur_terms_E) (s_l1Cur_terms_Eok) (told := s_l1Cur_terms_told) (l := s_l1Cur_terms_L3_sh) (step := s_l1Cur_terms_L3_step) (loopsOK_of (ls := []) (by kernel_rfl) trivial) (by kernel_rfl) (fun v => by kernel_rfl)
theorem s_l1Cur_terms_L10_ok : ToldOK Try.prog 1 (loopAt (bodyOf fn_s_l1Cur_terms) [1]) (LSh.told s_l1Cur_terms_L10_sh 1 (s_l1Cur_terms_L10_step)) :=
  loop_ok (E := s_l1Cur_terms_E) (s_l1Cur_terms_Eok) (told := s_l1Cur_terms_told) (l := s_l1Cur_terms_L10_sh) (step := s_l1Cur_terms_L10_step) (loopsOK_of (ls := []) (by kernel_rfl) trivial) (by kernel_rfl) (fun v => by kernel_rfl)
theorem s_l1Cur_terms_L13_ok : ToldOK Try.prog 1 (loopAt (bodyOf fn_s_l1Cur_terms) [2]) (LSh.told s_l1Cur_terms_L13_sh 1 (s_l1Cur_terms_L13_step)) :=
  loop_ok (E := s_l1Cur_terms_E) (s_l1Cur_terms_Eok) (told := s_l1Cur_terms_told) (l := s_l1Cur_terms_L13_sh) (step := s_l1Cur_terms_L13_step) (loopsOK_of (ls := []) (by kernel_rfl) trivial) (by kernel_rfl) (fun v => by kernel_rfl)
theorem s_l1Cur_terms_ok : FOK Try.prog n_s_l1Cur_terms s_l1Cur_terms_sh s_l1Cur_terms_fo s_l1Cur_terms :=
  fn_ok (E := s_l1Cur_terms_E) (s_l1Cur_terms_Eok) (told := s_l1Cur_terms_told) (fl := []) (c := bodyOf fn_s_l1Cur_terms) (s := s_l1Cur_terms_sh) (l := s_l1Cur_terms_fo) (tree := s_l1Cur_terms_t) fnat_s_l1Cur_terms (by kernel_rfl) (by kernel_rfl) (by kernel_rfl) (loopsOK_of (ls := [loopAt (bodyOf fn_s_l1Cur_terms) [0], loopAt (bodyOf fn_s_l1Cur_terms) [1], loopAt (bodyOf fn_s_l1Cur_terms) [2]]) (by kernel_rfl) ⟨.inr ⟨_, by kernel_rfl, s_l1Cur_terms_L3_ok⟩, ⟨.inr ⟨_, by kernel_rfl, s_l1Cur_terms_L10_ok⟩, ⟨.inr ⟨_, by kernel_rfl, s_l1Cur_terms_L13_ok⟩, trivial⟩⟩⟩) (fun v => by kernel_rfl)

def s_DrawMatrixOfList_sh : FSh := ⟨[(.one (.sl (.int .u8) false true))], []⟩

def s_DrawMatrixOfList_fo : List FO := [⟨[(.one (.rw 0 0))], [(.row 0 (.int .i64))]⟩]
noncomputable def s_DrawMatrixOfList_t : List (Int) → T (Unit × List (Int)) := fun code =>
  (.sub (s_l1Cur_terms (((), ((-2), (5 : Int))), (code, ((0 : Int), (0 : Int))))) fun z0 =>
  (.test (decide ((0 = 0) ∧ ((List.length z0.2.2) = (List.length z0.2.2))))
  (.ret ((), z0.2.2))
  .fail))
noncomputable def s_DrawMatrixOfList (v : List (Int)) : Option (Unit × List (Int)) := (s_DrawMatrixOfList_t v).run
noncomputable def s_DrawMatrixOfList_E : TEnv := (E0.add1 n_s_l1Cur_terms s_l1Cur_terms_sh s_l1Cur_terms_fo s_l1Cur_terms)
theorem s_DrawMatrixOfList_Eok : (s_DrawMatrixOfList_E).OK := (E0ok.add1 s_l1Cur_terms_ok)
noncomputable def s_DrawMatrixOfList_told : Nat → Option SealT := fun id => none
theorem s_DrawMatrixOfList_ok : FOK Try.prog n_s_DrawMatrixOfList s_DrawMatrixOfList_sh s_DrawMatrixOfList_fo s_DrawMatrixOfList :=
  fn_ok (E := s_DrawMatrixOfList_E) (s_DrawMatrixOfList_Eok) (told := s_DrawMatrixOfList_told) (fl := []) (c := bodyOf fn_s_DrawMatrixOfList) (s := s_DrawMatrixOfList_sh) (l := s_DrawMatrixOfList_fo) (tree := s_DrawMatrixOfList_t) fnat_s_DrawMatrixOfList (by kernel_rfl) (by kernel_rfl) (by kernel_rfl) (loopsOK_of (ls := []) (by kernel_rfl) trivial) (fun v => by kernel_rfl)

def i_within_sh : FSh := ⟨[(.one (.si .i64)), (.one (.si .i64)), (.one (.si .i64))], []⟩

def i_within_fo : List FO := [⟨[(.one .sb)], []⟩]
noncomputable def i_within_t : (Int × Int × Int) → T Bool := fun (n, low, high) =>
  (.test (decide (n ≥ low))
  (.ret (decide (n ≤ high)))
  (.ret false))
noncomputable def i_within (v : (Int × Int × Int)) : Option Bool := (i_within_t v).run
noncomputable def i_within_E : TEnv := E0
theorem i_within_Eok : (i_within_E).OK := E0ok
noncomputable def i_within_told : Nat → Option SealT := fun id => none
theorem i_within_ok : FOK Try.prog n_i_within i_within_sh i_within_fo i_within :=
  fn_ok (E := i_within_E) (i_within_Eok) (told := i_within_told) (fl := []) (c := bodyOf fn_i_within) (s := i_within_sh) (l := i_within_fo) (tree := i_within_t) fnat_i_within (by kernel_rfl) (by kernel_rfl) (by kernel_rfl) (loopsOK_of (ls := []) (by kernel_rfl) trivial) (fun v => by kernel_rfl)

theorem i_within_eq (n low high : Int) : i_within (n, low, high) = some (inB low high n) := by
  simp only [i_within, i_within_t, T.run, ge_iff_le, decide_eq_true_eq, inB]
  by_cases h : low ≤ n <;> simp [h]


def i_IsTermList_1_sh : FSh := ⟨[(.one (.si .i64))], []⟩

def i_IsTermList_1_fo : List FO := [⟨[(.one .sb)], []⟩]
noncomputable def i_IsTermList_1_t : Int → T Bool := fun n =>
  (.sub (i_within (n, ((-30), (30 : Int)))) fun z0 =>
  (.ret (! z0)))
noncomputable def i_IsTermList_1 (v : Int) : Option Bool := (i_IsTermList_1_t v).run
noncomputable def i_IsTermList_1_E : TEnv := (E0.add1 n_i_within i_within_sh i_within_fo i_within)
theorem i_IsTermList_1_Eok : (i_IsTermList_1_E).OK := (E0ok.add1 i_within_ok)
noncomputable def i_IsTermList_1_told : Nat → Option SealT := fun id => none
theorem i_IsTermList_1_ok : FOK Try.prog n_i_IsTermList_1 i_IsTermList_1_sh i_IsTermList_1_fo i_IsTermList_1 :=
  fn_ok (E := i_IsTermList_1_E) (i_IsTermList_1_Eok) (told := i_IsTermList_1_told) (fl := []) (c := bodyOf fn_i_IsTermList_1) (s := i_IsTermList_1_sh) (l := i_IsTermList_1_fo) (tree := i_IsTermList_1_t) fnat_i_IsTermList_1 (by kernel_rfl) (by kernel_rfl) (by kernel_rfl) (loopsOK_of (ls := []) (by kernel_rfl) trivial) (fun v => by kernel_rfl)

theorem i_IsTermList_1_eq (k : Int) : i_IsTermList_1 k = some (!inB (-30) 30 k) := by
  simp only [i_IsTermList_1, i_IsTermList_1_t, T.run, i_within_eq, Option.bind_some]


def slices_IndexFunc_int__i_IsTermList_1_sh : FSh := ⟨[(.one (.sl (.int .i64) false false)), (.one (.fn n_i_IsTermList_1))], []⟩

def slices_IndexFunc_int__i_IsTermList_1_L2_sh : LSh := ⟨(fun ex => match ex with | .norm => [(0, none), (1, none), (7, none), (8, none)] | .exit i => if i = 0 then [] else [] | .ret => [(4, none)]), [(0, (.one (.sl (.int .i64) false false))), (1, (.one (.fn n_i_IsTermList_1))), (7, (.one (.si .i64))), (8, (.one (.si .i64)))], [], [⟨.ret, [(4, (.one (.si .i64)))], []⟩, ⟨(.exit 0), [], []⟩], [], []⟩
noncomputable def slices_IndexFunc_int__i_IsTermList_1_L2_step : (List (Int) × Unit × Int × Int) → T ((List (Int) × Unit × Int × Int) ⊕ (Int ⊕ Unit)) := fun (s, (), t7, t8) =>
  (.test (decide (t8 < t7))
  (.test (decide ((0 ≤ t8) ∧ (t8 < ((List.length s) : Int))))
   (.sub (s[(Int.toNat t8)]?) fun z0 =>
    (.sub (i_IsTermList_1 z0) fun z1 =>
    (.test z1
    (.ret (Sum.inr (Sum.inl t8)))
    (.ret (Sum.inl (s, ((), (t7, (w64 (t8 + 1))))))))))
   .fail)
  (.ret (Sum.inr (Sum.inr ()))))
noncomputable def slices_IndexFunc_int__i_IsTermList_1_L2 (v : (List (Int) × Unit × Int × Int)) : Option (Int ⊕ Unit) := loopO (fun v => (slices_IndexFunc_int__i_IsTermList_1_L2_step v).run) v

def slices_IndexFunc_int__i_IsTermList_1_fo : List FO := [⟨[(.one (.si .i64))], []⟩]
noncomputable def slices_IndexFunc_int__i_IsTermList_1_t : (List (Int) × Unit) → T Int := fun (s, ()) =>
  (.sub (slices_IndexFunc_int__i_IsTermList_1_L2 (s, ((), (((List.length s) : Int), (0 : Int))))) fun z0 =>
  (.test (Sum.isLeft z0)
  (.sub (Sum.getLeft? z0) fun z1 =>
   (.ret z1))
  (.sub (Sum.getRight? z0) fun z2 =>
   (.ret (-1)))))
noncomputable def slices_IndexFunc_int__i_IsTermList_1 (v : (List (Int) × Unit)) : Option Int := (slices_IndexFunc_int__i_IsTermList_1_t v).run
noncomputable def slices_IndexFunc_int__i_IsTermList_1_E : TEnv := (E0.add1 n_i_IsTermList_1 i_IsTermList_1_sh i_IsTermList_1_fo i_IsTermList_1)
theorem slices_IndexFunc_int__i_IsTermList_1_Eok : (slices_IndexFunc_int__i_IsTermList_1_E).OK := (E0ok.add1 i_IsTermList_1_ok)
noncomputable def slices_IndexFunc_int__i_IsTermList_1_told : Nat → Option SealT := fun id => if id = 2 then some (LSh.told slices_IndexFunc_int__i_IsTermList_1_L2_sh 0 (slices_IndexFunc_int__i_IsTermList_1_L2_step)) else none
theorem slices_IndexFunc_int__i_IsTermList_1_L2_ok : ToldOK Try.prog 0 (loopAt (bodyOf fn_slices_IndexFunc_int) [0]) (LSh.told slices_IndexFunc_int__i_IsTermList_1_L2_sh 0 (slices_IndexFunc_int__i_IsTermList_1_L2_step)) :=
  loop_ok (E := slices_IndexFunc_int__i_IsTermList_1_E) (slices_IndexFunc_int__i_IsTermList_1_Eok) (told := slices_IndexFunc_int__i_IsTermList_1_told) (l := slices_IndexFunc_int__i_IsTermList_1_L2_sh) (step := slices_IndexFunc_int__i_IsTermList_1_L2_step) (loopsOK_of (ls := []) (by kernel_rfl) trivial) (by kernel_rfl) (fun v => by kernel_rfl)
theorem slices_IndexFunc_int__i_IsTermList_1_ok : FOK Try.prog n_slices_IndexFunc_int slices_IndexFunc_int__i_IsTermList_1_sh slices_IndexFunc_int__i_IsTermList_1_fo slices_IndexFunc_int__i_IsTermList_1 :=
  fn_ok (E := slices_IndexFunc_int__i_IsTermList_1_E) (slices_IndexFunc_int__i_IsTermList_1_Eok) (told := slices_IndexFunc_int__i_IsTermList_1_told) (fl := []) (c := bodyOf fn_slices_IndexFunc_int) (s := slices_IndexFunc_int__i_IsTermList_1_sh) (l := slices_IndexFunc_int__i_IsTermList_1_fo) (tree := slices_IndexFunc_int__i_IsTermList_1_t) fnat_slices_IndexFunc_int (by kernel_rfl) (by kernel_rfl) (by kernel_rfl) (loopsOK_of (ls := [loopAt (bodyOf fn_slices_IndexFunc_int) [0]]) (by kernel_rfl) ⟨.inr ⟨_, by kernel_rfl, slices_IndexFunc_int__i_IsTermList_1_L2_ok⟩, trivial⟩) (fun v => by kernel_rfl)

theorem slices_IndexFunc_int__i_IsTermList_1_eq (l : List Int) (hl : l.length < 4611686018427387904) : slices_IndexFunc_int__i_IsTermList_1 (l, ()) = some (idxI (fun k => !inB (-30) 30 k) l) := by
  have h := loop_find (step := fun v => (slices_IndexFunc_int__i_IsTermList_1_L2_step v).run) (xs := l) (fun k => !inB (-30) 30 k) (fun k => (l, (), (l.length : Int), (k : Int))) (fun k => .inl (k : Int)) (.inr ())
    (fun k x hx => by
      have hk := getElem?_lt hx
      simp only [slices_IndexFunc_int__i_IsTermList_1_L2_step, T.run, i_IsTermList_1_eq, Option.bind_some, Int.toNat_natCast, hx]
      rw [w64_id (by omega) (by omega)]
      cases inB (-30) 30 x <;> simp [hk])
    (by simp [slices_IndexFunc_int__i_IsTermList_1_L2_step, T.run])
  simp only [slices_IndexFunc_int__i_IsTermList_1, slices_IndexFunc_int__i_IsTermList_1_t, T.run, slices_IndexFunc_int__i_IsTermList_1_L2]
  simp only [Int.natCast_zero] at h
  rw [h, idxI]
  cases l.findIdx? (fun k => !inB (-30) 30 k) <;> simp


def slices_ContainsFunc_int__i_IsTermList_1_sh : FSh := ⟨[(.one (.sl (.int .i64) false false)), (.one (.fn n_i_IsTermList_1))], []⟩

def slices_ContainsFunc_int__i_IsTermList_1_fo : List FO := [⟨[(.one .sb)], []⟩]
noncomputable def slices_ContainsFunc_int__i_IsTermList_1_t : (List (Int) × Unit) → T Bool := fun (s, ()) =>
  (.sub (slices_IndexFunc_int__i_IsTermList_1 (s, ())) fun z0 =>
  (.ret (decide (z0 ≥ 0))))
noncomputable def slices_ContainsFunc_int__i_IsTermList_1 (v : (List (Int) × Unit)) : Option Bool := (slices_ContainsFunc_int__i_IsTermList_1_t v).run
noncomputable def slices_ContainsFunc_int__i_IsTermList_1_E : TEnv := (E0.add1 n_slices_IndexFunc_int slices_IndexFunc_int__i_IsTermList_1_sh slices_IndexFunc_int__i_IsTermList_1_fo slices_IndexFunc_int__i_IsTermList_1)
theorem slices_ContainsFunc_int__i_IsTermList_1_Eok : (slices_ContainsFunc_int__i_IsTermList_1_E).OK := (E0ok.add1 slices_IndexFunc_int__i_IsTermList_1_ok)
noncomputable def slices_ContainsFunc_int__i_IsTermList_1_told : Nat → Option SealT := fun id => none
theorem slices_ContainsFunc_int__i_IsTermList_1_ok : FOK Try.prog n_slices_ContainsFunc_int slices_ContainsFunc_int__i_IsTermList_1_sh slices_ContainsFunc_int__i_IsTermList_1_fo slices_ContainsFunc_int__i_IsTermList_1 :=
  fn_ok (E := slices_ContainsFunc_int__i_IsTermList_1_E) (slices_ContainsFunc_int__i_IsTermList_1_Eok) (told := slices_ContainsFunc_int__i_IsTermList_1_told) (fl := []) (c := bodyOf fn_slices_ContainsFunc_int) (s := slices_ContainsFunc_int__i_IsTermList_1_sh) (l := slices_ContainsFunc_int__i_IsTermList_1_fo) (tree := slices_ContainsFunc_int__i_IsTermList_1_t) fnat_slices_ContainsFunc_int (by kernel_rfl) (by kernel_rfl) (by kernel_rfl) (loopsOK_of (ls := []) (by kernel_rfl) trivial) (fun v => by kernel_rfl)

theorem slices_ContainsFunc_int__i_IsTermList_1_eq (l : List Int) (hl : l.length < 4611686018427387904) : slices_ContainsFunc_int__i_IsTermList_1 (l, ()) = some (l.any (fun k => !inB (-30) 30 k)) := by
  simp only [slices_ContainsFunc_int__i_IsTermList_1, slices_ContainsFunc_int__i_IsTermList_1_t, T.run, slices_IndexFunc_int__i_IsTermList_1_eq _ hl, Option.bind_some, idxI_ge]


def i_IsTermList_sh : FSh := ⟨[(.one (.sl (.int .i64) false false))], []⟩

def i_IsTermList_fo : List FO := [⟨[(.one .sb)], []⟩]
noncomputable def i_IsTermList_t : List (Int) → T Bool := fun list =>
  (.test (decide (((List.length list) : Int) ≤ 10))
  (.sub (slices_ContainsFunc_int__i_IsTermList_1 (list, ())) fun z0 =>
   (.ret (! z0)))
  (.ret false))
noncomputable def i_IsTermList (v : List (Int)) : Option Bool := (i_IsTermList_t v).run
noncomputable def i_IsTermList_E : TEnv := (E0.add1 n_slices_ContainsFunc_int slices_ContainsFunc_int__i_IsTermList_1_sh slices_ContainsFunc_int__i_IsTermList_1_fo slices_ContainsFunc_int__i_IsTermList_1)
theorem i_IsTermList_Eok : (i_IsTermList_E).OK := (E0ok.add1 slices_ContainsFunc_int__i_IsTermList_1_ok)
noncomputable def i_IsTermList_told : Nat → Option SealT := fun id => none
theorem i_IsTermList_ok : FOK Try.prog n_i_IsTermList i_IsTermList_sh i_IsTermList_fo i_IsTermList :=
  fn_ok (E := i_IsTermList_E) (i_IsTermList_Eok) (told := i_IsTermList_told) (fl := []) (c := bodyOf fn_i_IsTermList) (s := i_IsTermList_sh) (l := i_IsTermList_fo) (tree := i_IsTermList_t) fnat_i_IsTermList (by kernel_rfl) (by kernel_rfl) (by kernel_rfl) (loopsOK_of (ls := []) (by kernel_rfl) trivial) (fun v => by kernel_rfl)

theorem i_IsTermList_eq (l : List Int) (hl : l.length < 4611686018427387904) : i_IsTermList l = some (isTerms l) := by
  simp only [i_IsTermList, i_IsTermList_t, T.run, slices_ContainsFunc_int__i_IsTermList_1_eq _ hl, Option.bind_some, isTerms, decide_eq_true_eq, all_any]
  by_cases h : l.length ≤ 10
  · rw [if_pos (by omega)]; simp [h]
  · rw [if_neg (by omega)]; simp [h]


def i_one_sh : FSh := ⟨[], []⟩

def i_one_fo : List FO := [⟨[(.ag [(.si .i64), (.si .i64), (.si .i64), (.si .i64)])], []⟩]
noncomputable def i_one_t : Unit → T (Int × Int × Int × Int) := fun () =>
  (.ret ((1 : Int), ((0 : Int), ((0 : Int), (1 : Int)))))
noncomputable def i_one (v : Unit) : Option (Int × Int × Int × Int) := (i_one_t v).run
noncomputable def i_one_E : TEnv := E0
theorem i_one_Eok : (i_one_E).OK := E0ok
noncomputable def i_one_told : Nat → Option SealT := fun id => none
theorem i_one_ok : FOK Try.prog n_i_one i_one_sh i_one_fo i_one :=
  fn_ok (E := i_one_E) (i_one_Eok) (told := i_one_told) (fl := []) (c := bodyOf fn_i_one) (s := i_one_sh) (l := i_one_fo) (tree := i_one_t) fnat_i_one (by kernel_rfl) (by kernel_rfl) (by kernel_rfl) (loopsOK_of (ls := []) (by kernel_rfl) trivial) (fun v => by kernel_rfl)

theorem i_one_eq : i_one () = some one4 := rfl


def i_times_sh : FSh := ⟨[(.ag [(.si .i64), (.si .i64), (.si .i64), (.si .i64)]), (.ag [(.si .i64), (.si .i64), (.si .i64), (.si .i64)])], []⟩

def i_times_fo : List FO := [⟨[(.ag [(.si .i64), (.si .i64), (.si .i64), (.si .i64)])], []⟩]
noncomputable def i_times_t : ((Int × Int × Int × Int) × (Int × Int × Int × Int)) → T (Int × Int × Int × Int) := fun ((m_0, m_1, m_2, m_3), (k_0, k_1, k_2, k_3)) =>
  (.ret ((w64 ((w64 (m_0 * k_0)) + (w64 (m_1 * k_2)))), ((w64 ((w64 (m_0 * k_1)) + (w64 (m_1 * k_3)))), ((w64 ((w64 (m_2 * k_0)) + (w64 (m_3 * k_2)))), (w64 ((w64 (m_2 * k_1)) + (w64 (m_3 * k_3))))))))
noncomputable def i_times (v : ((Int × Int × Int × Int) × (Int × Int × Int × Int))) : Option (Int × Int × Int × Int) := (i_times_t v).run
noncomputable def i_times_E : TEnv := E0
theorem i_times_Eok : (i_times_E).OK := E0ok
noncomputable def i_times_told : Nat → Option SealT := fun id => none
theorem i_times_ok : FOK Try.prog n_i_times i_times_sh i_times_fo i_times :=
  fn_ok (E := i_times_E) (i_times_Eok) (told := i_times_told) (fl := []) (c := bodyOf fn_i_times) (s := i_times_sh) (l := i_times_fo) (tree := i_times_t) fnat_i_times (by kernel_rfl) (by kernel_rfl) (by kernel_rfl) (loopsOK_of (ls := []) (by kernel_rfl) trivial) (fun v => by kernel_rfl)

theorem i_times_eq (m k : M4) {A B : Int} (h : in4 A m) (h2 : in4 B k) (hAB : 2 * (A * B) ≤ 9223372036854775807) : i_times (m, k) = some (mul4 m k) := by
  obtain ⟨m0, m1, m2, m3⟩ := m
  obtain ⟨k0, k1, k2, k3⟩ := k
  simp only [in4] at h h2
  have a1 := mul_le (a := m0) (b := k0) (A := A) (B := B) (by omega) (by omega) (by omega) (by omega)
  have a2 := mul_le (a := m1) (b := k2) (A := A) (B := B) (by omega) (by omega) (by omega) (by omega)
  have a3 := mul_le (a := m0) (b := k1) (A := A) (B := B) (by omega) (by omega) (by omega) (by omega)
  have a4 := mul_le (a := m1) (b := k3) (A := A) (B := B) (by omega) (by omega) (by omega) (by omega)
  have a5 := mul_le (a := m2) (b := k0) (A := A) (B := B) (by omega) (by omega) (by omega) (by omega)
  have a6 := mul_le (a := m3) (b := k2) (A := A) (B := B) (by omega) (by omega) (by omega) (by omega)
  have a7 := mul_le (a := m2) (b := k1) (A := A) (B := B) (by omega) (by omega) (by omega) (by omega)
  have a8 := mul_le (a := m3) (b := k3) (A := A) (B := B) (by omega) (by omega) (by omega) (by omega)
  simp only [i_times, i_times_t, T.run]
  rw [w64_id (z := m0 * k0) (by omega) (by omega), w64_id (z := m1 * k2) (by omega) (by omega), w64_id (z := m0 * k1) (by omega) (by omega), w64_id (z := m1 * k3) (by omega) (by omega),
    w64_id (z := m2 * k0) (by omega) (by omega), w64_id (z := m3 * k2) (by omega) (by omega), w64_id (z := m2 * k1) (by omega) (by omega), w64_id (z := m3 * k3) (by omega) (by omega),
    w64_id (by omega) (by omega), w64_id (by omega) (by omega), w64_id (by omega) (by omega), w64_id (by omega) (by omega)]
  rfl


def i_matrixOfList_sh : FSh := ⟨[(.one (.sl (.int .i64) false false))], []⟩

def i_matrixOfList_L3_sh : LSh := ⟨(fun ex => match ex with | .norm => [(2, none), (3, none), (7, none), (8, none), (9, none)] | .exit i => if i = 0 then [(2, none), (3, none)] else [] | .ret => [(2, none)]), [(2, (.one (.pf 0 0 0))), (3, (.one (.pf 1 0 0))), (7, (.one (.sl (.int .i64) false false))), (8, (.one (.si .i64))), (9, (.one (.si .i64)))], [(.rcd 0 [(.si .i64), (.si .i64), (.si .i64), (.si .i64)]), (.rcd 0 [(.si .i64), (.si .i64), (.si .i64), (.si .i64)])], [⟨(.exit 0), [(2, (.one (.pf 0 0 0))), (3, (.one (.pf 1 0 0)))], [(.rcd 0 [(.si .i64), (.si .i64), (.si .i64), (.si .i64)]), (.rcd 0 [(.si .i64), (.si .i64), (.si .i64), (.si .i64)])]⟩], [], []⟩
noncomputable def i_matrixOfList_L3_step : ((Unit × Unit × List (Int) × Int × Int) × ((Int × Int × Int × Int) × (Int × Int × Int × Int))) → T (((Unit × Unit × List (Int) × Int × Int) × ((Int × Int × Int × Int) × (Int × Int × Int × Int))) ⊕ ((Unit × Unit) × ((Int × Int × Int × Int) × (Int × Int × Int × Int)))) := fun (((), (), t7, t8, t9), ((t2_0, t2_1, t2_2, t2_3), (out_0, out_1, out_2, out_3))) =>
  (.test (decide (t9 < t8))
  (.test (decide ((0 ≤ t9) ∧ (t9 < ((List.length t7) : Int))))
   (.sub (t7[(Int.toNat t9)]?) fun z0 =>
    (.sub (i_times ((out_0, (out_1, (out_2, out_3))), (z0, ((-1), ((1 : Int), (0 : Int)))))) fun z1 =>
    (.ret (Sum.inl (((), ((), (t7, (t8, (w64 (t9 + 1)))))), ((t2_0, (t2_1, (t2_2, t2_3))), (z1.1, (z1.2.1, (z1.2.2.1, z1.2.2.2)))))))))
   .fail)
  (.ret (Sum.inr (((), ()), ((t2_0, (t2_1, (t2_2, t2_3))), (out_0, (out_1, (out_2, out_3))))))))
noncomputable def i_matrixOfList_L3 (v : ((Unit × Unit × List (Int) × Int × Int) × ((Int × Int × Int × Int) × (Int × Int × Int × Int)))) : Option ((Unit × Unit) × ((Int × Int × Int × Int) × (Int × Int × Int × Int))) := loopO (fun v => (i_matrixOfList_L3_step v).run) v

def i_matrixOfList_fo : List FO := [⟨[(.ag [(.si .i64), (.si .i64), (.si .i64), (.si .i64)])], []⟩]
noncomputable def i_matrixOfList_t : List (Int) → T (Int × Int × Int × Int) := fun list =>
  (.sub (i_one ()) fun z0 =>
  (.sub (i_matrixOfList_L3 (((), ((), (list, (((List.length list) : Int), (0 : Int))))), (((0 : Int), ((0 : Int), ((0 : Int), (0 : Int)))), (z0.1, (z0.2.1, (z0.2.2.1, z0.2.2.2)))))) fun z1 =>
  (.ret (z1.2.2.1, (z1.2.2.2.1, (z1.2.2.2.2.1, z1.2.2.2.2.2))))))
noncomputable def i_matrixOfList (v : List (Int)) : Option (Int × Int × Int × Int) := (i_matrixOfList_t v).run
noncomputable def i_matrixOfList_E : TEnv := ((E0.add1 n_i_one i_one_sh i_one_fo i_one).add1 n_i_times i_times_sh i_times_fo i_times)
theorem i_matrixOfList_Eok : (i_matrixOfList_E).OK := ((E0ok.add1 i_one_ok).add1 i_times_ok)
noncomputable def i_matrixOfList_told : Nat → Option SealT := fun id => if id = 3 then some (LSh.told i_matrixOfList_L3_sh 0 (i_matrixOfList_L3_step)) else none
theorem i_matrixOfList_L3_ok : ToldOK Try.prog 0 (loopAt (bodyOf fn_i_matrixOfList) [0]) (LSh.told i_matrixOfList_L3_sh 0 (i_matrixOfList_L3_step)) :=
  loop_ok (E := i_matrixOfList_E) (i_matrixOfList_Eok) (told := i_matrixOfList_told) (l := i_matrixOfList_L3_sh) (step := i_matrixOfList_L3_step) (loopsOK_of (ls := []) (by kernel_rfl) trivial) (by kernel_rfl) (fun v => by kernel_rfl)
theorem i_matrixOfList_ok : FOK Try.prog n_i_matrixOfList i_matrixOfList_sh i_matrixOfList_fo i_matrixOfList :=
  fn_ok (E := i_matrixOfList_E) (i_matrixOfList_Eok) (told := i_matrixOfList_told) (fl := []) (c := bodyOf fn_i_matrixOfList) (s := i_matrixOfList_sh) (l := i_matrixOfList_fo) (tree := i_matrixOfList_t) fnat_i_matrixOfList (by kernel_rfl) (by kernel_rfl) (by kernel_rfl) (loopsOK_of (ls := [loopAt (bodyOf fn_i_matrixOfList) [0]]) (by kernel_rfl) ⟨.inr ⟨_, by kernel_rfl, i_matrixOfList_L3_ok⟩, trivial⟩) (fun v => by kernel_rfl)

theorem i_matrixOfList_eq (l : List Int) (h : isTerms l = true) : i_matrixOfList l = some (mOf l) := by
  obtain ⟨hl, ht⟩ := isTerms_iff.1 h
  have h := loop_fold (step := fun v => (i_matrixOfList_L3_step v).run) (xs := l) (fun k (m : M4) => m = mOf (l.take k)) (fun k (m : M4) => (((), (), l, (l.length : Int), (k : Int)), ((0, 0, 0, 0), m))) (fun m a => mul4 m (a, -1, 1, 0)) (fun m => (((), ()), ((0, 0, 0, 0), m)))
    (fun k m x hP hx => by
      have hk := getElem?_lt hx
      subst hP
      have hx2 := ht x (List.mem_of_getElem? hx)
      have hb := mOf_B (l.take k) (fun y hy => ht y (List.mem_of_mem_take hy))
      have hp := pw_le (k := (l.take k).length) (by simp; omega)
      have hp2 := pw_pos (l.take k).length
      have hm := i_times_eq (mOf (l.take k)) (x, -1, 1, 0) (A := pw (l.take k).length) (B := 30) hb (by simp only [in4]; omega) (by omega)
      constructor
      · simp only [i_matrixOfList_L3_step, T.run, Option.bind_some, Int.toNat_natCast, hx]
        have e : ((mOf (l.take k)).1, (mOf (l.take k)).2.1, (mOf (l.take k)).2.2.1, (mOf (l.take k)).2.2.2) = mOf (l.take k) := rfl
        rw [w64_id (by omega) (by omega), e, hm]
        simp [hk]
      · rw [← mOf_snoc]
        rw [List.take_succ_eq_append_getElem hk, (List.getElem?_eq_some_iff.1 hx).2])
    (fun m hP => by simp [i_matrixOfList_L3_step, T.run]) one4 (by simp [mOf])
  simp only [i_matrixOfList, i_matrixOfList_t, T.run, i_matrixOfList_L3, i_one_eq, Option.bind_some, one4]
  simp only [Int.natCast_zero, one4] at h
  rw [h.1, Option.bind_some]
  have h2 := h.2
  rw [List.take_length] at h2
  simp only [h2]


def i_isEntry_sh : FSh := ⟨[(.one (.si .i64))], []⟩

def i_isEntry_fo : List FO := [⟨[(.one .sb)], []⟩]
noncomputable def i_isEntry_t : Int → T Bool := fun n =>
  (.sub (i_within (n, ((-1000000000), (1000000000 : Int)))) fun z0 =>
  (.ret z0))
noncomputable def i_isEntry (v : Int) : Option Bool := (i_isEntry_t v).run
noncomputable def i_isEntry_E : TEnv := (E0.add1 n_i_within i_within_sh i_within_fo i_within)
theorem i_isEntry_Eok : (i_isEntry_E).OK := (E0ok.add1 i_within_ok)
noncomputable def i_isEntry_told : Nat → Option SealT := fun id => none
theorem i_isEntry_ok : FOK Try.prog n_i_isEntry i_isEntry_sh i_isEntry_fo i_isEntry :=
  fn_ok (E := i_isEntry_E) (i_isEntry_Eok) (told := i_isEntry_told) (fl := []) (c := bodyOf fn_i_isEntry) (s := i_isEntry_sh) (l := i_isEntry_fo) (tree := i_isEntry_t) fnat_i_isEntry (by kernel_rfl) (by kernel_rfl) (by kernel_rfl) (loopsOK_of (ls := []) (by kernel_rfl) trivial) (fun v => by kernel_rfl)

theorem i_isEntry_eq (n : Int) : i_isEntry n = some (inB (-1000000000) 1000000000 n) := by
  simp only [i_isEntry, i_isEntry_t, T.run, i_within_eq, Option.bind_some]


def i_IsMatrix_sh : FSh := ⟨[(.ag [(.si .i64), (.si .i64), (.si .i64), (.si .i64)])], []⟩

def i_IsMatrix_fo : List FO := [⟨[(.one .sb)], []⟩]
noncomputable def i_IsMatrix_t : (Int × Int × Int × Int) → T Bool := fun (m_0, m_1, m_2, m_3) =>
  (.sub (i_isEntry m_0) fun z0 =>
  (.test z0
  (.sub (i_isEntry m_1) fun z1 =>
   (.test z1
   (.sub (i_isEntry m_2) fun z2 =>
    (.test z2
    (.sub (i_isEntry m_3) fun z3 =>
     (.test z3
     (.ret ((w64 ((w64 (m_0 * m_3)) - (w64 (m_1 * m_2)))) == 1))
     (.ret false)))
    (.ret false)))
   (.ret false)))
  (.ret false)))
noncomputable def i_IsMatrix (v : (Int × Int × Int × Int)) : Option Bool := (i_IsMatrix_t v).run
noncomputable def i_IsMatrix_E : TEnv := (E0.add1 n_i_isEntry i_isEntry_sh i_isEntry_fo i_isEntry)
theorem i_IsMatrix_Eok : (i_IsMatrix_E).OK := (E0ok.add1 i_isEntry_ok)
noncomputable def i_IsMatrix_told : Nat → Option SealT := fun id => none
theorem i_IsMatrix_ok : FOK Try.prog n_i_IsMatrix i_IsMatrix_sh i_IsMatrix_fo i_IsMatrix :=
  fn_ok (E := i_IsMatrix_E) (i_IsMatrix_Eok) (told := i_IsMatrix_told) (fl := []) (c := bodyOf fn_i_IsMatrix) (s := i_IsMatrix_sh) (l := i_IsMatrix_fo) (tree := i_IsMatrix_t) fnat_i_IsMatrix (by kernel_rfl) (by kernel_rfl) (by kernel_rfl) (loopsOK_of (ls := []) (by kernel_rfl) trivial) (fun v => by kernel_rfl)

theorem i_IsMatrix_eq (m : M4) : i_IsMatrix m = some (good4 m) := by
  obtain ⟨a, b, c, d⟩ := m
  simp only [i_IsMatrix, i_IsMatrix_t, T.run, i_isEntry_eq, Option.bind_some, good4]
  cases ha : inB (-1000000000) 1000000000 a <;> cases hb : inB (-1000000000) 1000000000 b <;> cases hc : inB (-1000000000) 1000000000 c <;> cases hd : inB (-1000000000) 1000000000 d <;> simp
  rw [inB_iff] at ha hb hc hd
  rw [det_w ha hb hc hd, beq_int]


def i_checked_sh : FSh := ⟨[(.ag [(.si .i64), (.si .i64), (.si .i64), (.si .i64)])], []⟩

def i_checked_fo : List FO := [⟨[(.ag [(.si .i64), (.si .i64), (.si .i64), (.si .i64)]), (.one .sb)], []⟩]
noncomputable def i_checked_t : (Int × Int × Int × Int) → T ((Int × Int × Int × Int) × Bool) := fun (m_0, m_1, m_2, m_3) =>
  (.sub (i_IsMatrix (m_0, (m_1, (m_2, m_3)))) fun z0 =>
  (.test (! z0)
  (.ret (((0 : Int), ((0 : Int), ((0 : Int), (0 : Int)))), false))
  (.ret ((m_0, (m_1, (m_2, m_3))), true))))
noncomputable def i_checked (v : (Int × Int × Int × Int)) : Option ((Int × Int × Int × Int) × Bool) := (i_checked_t v).run
noncomputable def i_checked_E : TEnv := (E0.add1 n_i_IsMatrix i_IsMatrix_sh i_IsMatrix_fo i_IsMatrix)
theorem i_checked_Eok : (i_checked_E).OK := (E0ok.add1 i_IsMatrix_ok)
noncomputable def i_checked_told : Nat → Option SealT := fun id => none
theorem i_checked_ok : FOK Try.prog n_i_checked i_checked_sh i_checked_fo i_checked :=
  fn_ok (E := i_checked_E) (i_checked_Eok) (told := i_checked_told) (fl := []) (c := bodyOf fn_i_checked) (s := i_checked_sh) (l := i_checked_fo) (tree := i_checked_t) fnat_i_checked (by kernel_rfl) (by kernel_rfl) (by kernel_rfl) (loopsOK_of (ls := []) (by kernel_rfl) trivial) (fun v => by kernel_rfl)

theorem i_checked_eq (m : M4) : i_checked m = some (if good4 m then (m, true) else ((0, 0, 0, 0), false)) := by
  obtain ⟨a, b, c, d⟩ := m
  simp only [i_checked, i_checked_t, T.run, i_IsMatrix_eq, Option.bind_some]
  cases good4 (a, b, c, d) <;> simp


def i_MatrixOfList_sh : FSh := ⟨[(.one (.sl (.int .i64) false false))], []⟩

def i_MatrixOfList_fo : List FO := [⟨[(.ag [(.si .i64), (.si .i64), (.si .i64), (.si .i64)]), (.one .sb)], []⟩]
noncomputable def i_MatrixOfList_t : List (Int) → T ((Int × Int × Int × Int) × Bool) := fun list =>
  (.sub (i_IsTermList list) fun z0 =>
  (.test (! z0)
  (.ret (((0 : Int), ((0 : Int), ((0 : Int), (0 : Int)))), false))
  (.sub (i_matrixOfList list) fun z1 =>
   (.sub (i_checked (z1.1, (z1.2.1, (z1.2.2.1, z1.2.2.2)))) fun z2 =>
   (.ret ((z2.1.1, (z2.1.2.1, (z2.1.2.2.1, z2.1.2.2.2))), z2.2))))))
noncomputable def i_MatrixOfList (v : List (Int)) : Option ((Int × Int × Int × Int) × Bool) := (i_MatrixOfList_t v).run
noncomputable def i_MatrixOfList_E : TEnv := (((E0.add1 n_i_IsTermList i_IsTermList_sh i_IsTermList_fo i_IsTermList).add1 n_i_matrixOfList i_matrixOfList_sh i_matrixOfList_fo i_matrixOfList).add1 n_i_checked i_checked_sh i_checked_fo i_checked)
theorem i_MatrixOfList_Eok : (i_MatrixOfList_E).OK := (((E0ok.add1 i_IsTermList_ok).add1 i_matrixOfList_ok).add1 i_checked_ok)
noncomputable def i_MatrixOfList_told : Nat → Option SealT := fun id => none
theorem i_MatrixOfList_ok : FOK Try.prog n_i_MatrixOfList i_MatrixOfList_sh i_MatrixOfList_fo i_MatrixOfList :=
  fn_ok (E := i_MatrixOfList_E) (i_MatrixOfList_Eok) (told := i_MatrixOfList_told) (fl := []) (c := bodyOf fn_i_MatrixOfList) (s := i_MatrixOfList_sh) (l := i_MatrixOfList_fo) (tree := i_MatrixOfList_t) fnat_i_MatrixOfList (by kernel_rfl) (by kernel_rfl) (by kernel_rfl) (loopsOK_of (ls := []) (by kernel_rfl) trivial) (fun v => by kernel_rfl)

theorem i_MatrixOfList_eq (l : List Int) (hl : l.length < 4611686018427387904) : i_MatrixOfList l = some (if isTerms l && good4 (mOf l) then (mOf l, true) else ((0, 0, 0, 0), false)) := by
  simp only [i_MatrixOfList, i_MatrixOfList_t, T.run, i_IsTermList_eq l hl, Option.bind_some]
  cases h : isTerms l with
  | false => simp
  | true =>
    simp only [Bool.not_true, Bool.false_eq_true, if_false, i_matrixOfList_eq l h, Option.bind_some, i_checked_eq, Bool.true_and]


def s_l1In_sh : FSh := ⟨[(.one (.si .i64)), (.one (.si .i64)), (.one (.si .i64))], []⟩

def s_l1In_fo : List FO := [⟨[(.one .sb)], []⟩]
noncomputable def s_l1In_t : (Int × Int × Int) → T Bool := fun (n, lo, hi) =>
  (.test (decide (n ≥ lo))
  (.ret (decide (n ≤ hi)))
  (.ret false))
noncomputable def s_l1In (v : (Int × Int × Int)) : Option Bool := (s_l1In_t v).run
noncomputable def s_l1In_E : TEnv := E0
theorem s_l1In_Eok : (s_l1In_E).OK := E0ok
noncomputable def s_l1In_told : Nat → Option SealT := fun id => none
theorem s_l1In_ok : FOK Try.prog n_s_l1In s_l1In_sh s_l1In_fo s_l1In :=
  fn_ok (E := s_l1In_E) (s_l1In_Eok) (told := s_l1In_told) (fl := []) (c := bodyOf fn_s_l1In) (s := s_l1In_sh) (l := s_l1In_fo) (tree := s_l1In_t) fnat_s_l1In (by kernel_rfl) (by kernel_rfl) (by kernel_rfl) (loopsOK_of (ls := []) (by kernel_rfl) trivial) (fun v => by kernel_rfl)

theorem s_l1In_eq (n low high : Int) : s_l1In (n, low, high) = some (inB low high n) := by
  simp only [s_l1In, s_l1In_t, T.run, ge_iff_le, decide_eq_true_eq, inB]
  by_cases h : low ≤ n <;> simp [h]


def s_l1All_sh : FSh := ⟨[(.one (.sl (.int .i64) false false)), (.one (.si .i64)), (.one (.si .i64))], []⟩

def s_l1All_L2_sh : LSh := ⟨(fun ex => match ex with | .norm => [(1, none), (2, none), (9, none), (10, none), (11, none)] | .exit i => if i = 0 then [] else [] | .ret => [(6, none)]), [(1, (.one (.si .i64))), (2, (.one (.si .i64))), (9, (.one (.sl (.int .i64) false false))), (10, (.one (.si .i64))), (11, (.one (.si .i64)))], [], [⟨.ret, [(6, (.one .sb))], []⟩, ⟨(.exit 0), [], []⟩], [], []⟩
noncomputable def s_l1All_L2_step : (Int × Int × List (Int) × Int × Int) → T ((Int × Int × List (Int) × Int × Int) ⊕ (Bool ⊕ Unit)) := fun (lo, hi, t9, t10, t11) =>
  (.test (decide (t11 < t10))
  (.test (decide ((0 ≤ t11) ∧ (t11 < ((List.length t9) : Int))))
   (.sub (t9[(Int.toNat t11)]?) fun z0 =>
    (.sub (s_l1In (z0, (lo, hi))) fun z1 =>
    (.test (! z1)
    (.ret (Sum.inr (Sum.inl false)))
    (.ret (Sum.inl (lo, (hi, (t9, (t10, (w64 (t11 + 1)))))))))))
   .fail)
  (.ret (Sum.inr (Sum.inr ()))))
noncomputable def s_l1All_L2 (v : (Int × Int × List (Int) × Int × Int)) : Option (Bool ⊕ Unit) := loopO (fun v => (s_l1All_L2_step v).run) v

def s_l1All_fo : List FO := [⟨[(.one .sb)], []⟩]
noncomputable def s_l1All_t : (List (Int) × Int × Int) → T Bool := fun (l, lo, hi) =>
  (.sub (s_l1All_L2 (lo, (hi, (l, (((List.length l) : Int), (0 : Int)))))) fun z0 =>
  (.test (Sum.isLeft z0)
  (.sub (Sum.getLeft? z0) fun z1 =>
   (.ret z1))
  (.sub (Sum.getRight? z0) fun z2 =>
   (.ret true))))
noncomputable def s_l1All (v : (List (Int) × Int × Int)) : Option Bool := (s_l1All_t v).run
noncomputable def s_l1All_E : TEnv := (E0.add1 n_s_l1In s_l1In_sh s_l1In_fo s_l1In)
theorem s_l1All_Eok : (s_l1All_E).OK := (E0ok.add1 s_l1In_ok)
noncomputable def s_l1All_told : Nat → Option SealT := fun id => if id = 2 then some (LSh.told s_l1All_L2_sh 0 (s_l1All_L2_step)) else none
theorem s_l1All_L2_ok : ToldOK Try.prog 0 (loopAt (bodyOf fn_s_l1All) [0]) (LSh.told s_l1All_L2_sh 0 (s_l1All_L2_step)) :=
  loop_ok (E := s_l1All_E) (s_l1All_Eok) (told := s_l1All_told) (l := s_l1All_L2_sh) (step := s_l1All_L2_step) (loopsOK_of (ls := []) (by kernel_rfl) trivial) (by kernel_rfl) (fun v => by kernel_rfl)
theorem s_l1All_ok : FOK Try.prog n_s_l1All s_l1All_sh s_l1All_fo s_l1All :=
  fn_ok (E := s_l1All_E) (s_l1All_Eok) (told := s_l1All_told) (fl := []) (c := bodyOf fn_s_l1All) (s := s_l1All_sh) (l := s_l1All_fo) (tree := s_l1All_t) fnat_s_l1All (by kernel_rfl) (by kernel_rfl) (by kernel_rfl) (loopsOK_of (ls := [loopAt (bodyOf fn_s_l1All) [0]]) (by kernel_rfl) ⟨.inr ⟨_, by kernel_rfl, s_l1All_L2_ok⟩, trivial⟩) (fun v => by kernel_rfl)

theorem s_l1All_eq (l : List Int) (lo hi : Int) (hl : l.length < 4611686018427387904) : s_l1All (l, lo, hi) = some (l.all (inB lo hi)) := by
  have h := loop_any (step := fun v => (s_l1All_L2_step v).run) (xs := l) (fun n => !inB lo hi n) (fun k => (lo, hi, l, (l.length : Int), (k : Int))) (.inl false) (.inr ())
    (fun k x hx => by
      have hk := getElem?_lt hx
      simp only [s_l1All_L2_step, T.run, s_l1In_eq, Option.bind_some, Int.toNat_natCast, hx]
      rw [w64_id (by omega) (by omega)]
      cases inB lo hi x <;> simp [hk])
    (by simp [s_l1All_L2_step, T.run])
  simp only [s_l1All, s_l1All_t, T.run, s_l1All_L2]
  simp only [Int.natCast_zero] at h
  rw [h, ← all_any]
  cases hb : l.any (fun n => !inB lo hi n) <;> simp


def s_ctGood_sh : FSh := ⟨[(.one (.sl (.int .i64) false false))], []⟩

def s_ctGood_fo : List FO := [⟨[(.one .sb)], []⟩]
noncomputable def s_ctGood_t : List (Int) → T Bool := fun list =>
  (.test (decide (((List.length list) : Int) ≤ 10))
  (.sub (s_l1All (list, ((-30), (30 : Int)))) fun z0 =>
   (.ret z0))
  (.ret false))
noncomputable def s_ctGood (v : List (Int)) : Option Bool := (s_ctGood_t v).run
noncomputable def s_ctGood_E : TEnv := (E0.add1 n_s_l1All s_l1All_sh s_l1All_fo s_l1All)
theorem s_ctGood_Eok : (s_ctGood_E).OK := (E0ok.add1 s_l1All_ok)
noncomputable def s_ctGood_told : Nat → Option SealT := fun id => none
theorem s_ctGood_ok : FOK Try.prog n_s_ctGood s_ctGood_sh s_ctGood_fo s_ctGood :=
  fn_ok (E := s_ctGood_E) (s_ctGood_Eok) (told := s_ctGood_told) (fl := []) (c := bodyOf fn_s_ctGood) (s := s_ctGood_sh) (l := s_ctGood_fo) (tree := s_ctGood_t) fnat_s_ctGood (by kernel_rfl) (by kernel_rfl) (by kernel_rfl) (loopsOK_of (ls := []) (by kernel_rfl) trivial) (fun v => by kernel_rfl)

theorem s_ctGood_eq (l : List Int) (hl : l.length < 4611686018427387904) : s_ctGood l = some (isTerms l) := by
  simp only [s_ctGood, s_ctGood_t, T.run, s_l1All_eq _ _ _ hl, Option.bind_some, isTerms, decide_eq_true_eq]
  by_cases h : l.length ≤ 10
  · rw [if_pos (by omega)]; simp [h]
  · rw [if_neg (by omega)]; simp [h]


def s_mxOne_sh : FSh := ⟨[], []⟩

def s_mxOne_fo : List FO := [⟨[(.ag [(.si .i64), (.si .i64), (.si .i64), (.si .i64)])], []⟩]
noncomputable def s_mxOne_t : Unit → T (Int × Int × Int × Int) := fun () =>
  (.ret ((1 : Int), ((0 : Int), ((0 : Int), (1 : Int)))))
noncomputable def s_mxOne (v : Unit) : Option (Int × Int × Int × Int) := (s_mxOne_t v).run
noncomputable def s_mxOne_E : TEnv := E0
theorem s_mxOne_Eok : (s_mxOne_E).OK := E0ok
noncomputable def s_mxOne_told : Nat → Option SealT := fun id => none
theorem s_mxOne_ok : FOK Try.prog n_s_mxOne s_mxOne_sh s_mxOne_fo s_mxOne :=
  fn_ok (E := s_mxOne_E) (s_mxOne_Eok) (told := s_mxOne_told) (fl := []) (c := bodyOf fn_s_mxOne) (s := s_mxOne_sh) (l := s_mxOne_fo) (tree := s_mxOne_t) fnat_s_mxOne (by kernel_rfl) (by kernel_rfl) (by kernel_rfl) (loopsOK_of (ls := []) (by kernel_rfl) trivial) (fun v => by kernel_rfl)

theorem s_mxOne_eq : s_mxOne () = some one4 := rfl


def s_ctValue_sh : FSh := ⟨[(.one (.sl (.int .i64) false false)), (.one (.si .i64))], []⟩

def s_ctValue_L3_sh : LSh := ⟨(fun ex => match ex with | .norm => [(1, none), (5, none), (6, none), (10, none), (11, none), (12, none)] | .exit i => if i = 0 then [(6, none)] else [] | .ret => [(4, none)]), [(1, (.one (.si .i64))), (5, (.one (.si .i64))), (6, (.one (.si .i64))), (10, (.one (.sl (.int .i64) false false))), (11, (.one (.si .i64))), (12, (.one (.si .i64)))], [], [⟨(.exit 0), [(6, (.one (.si .i64)))], []⟩], [], []⟩
noncomputable def s_ctValue_L3_step : (Int × Int × Int × List (Int) × Int × Int) → T ((Int × Int × Int × List (Int) × Int × Int) ⊕ Int) := fun (sign, before, at', t10, t11, t12) =>
  (.test (decide (t12 < t11))
  (.test (decide ((0 ≤ t12) ∧ (t12 < ((List.length t10) : Int))))
   (.sub (t10[(Int.toNat t12)]?) fun z0 =>
    (.ret (Sum.inl (sign, (at', ((w64 ((w64 (z0 * at')) + (w64 (sign * before)))), (t10, (t11, (w64 (t12 + 1))))))))))
   .fail)
  (.ret (Sum.inr at')))
noncomputable def s_ctValue_L3 (v : (Int × Int × Int × List (Int) × Int × Int)) : Option Int := loopO (fun v => (s_ctValue_L3_step v).run) v

def s_ctValue_fo : List FO := [⟨[(.one (.si .i64))], []⟩]
noncomputable def s_ctValue_t : (List (Int) × Int) → T Int := fun (list, sign) =>
  (.sub (s_ctValue_L3 (sign, ((0 : Int), ((1 : Int), (list, (((List.length list) : Int), (0 : Int))))))) fun z0 =>
  (.ret z0))
noncomputable def s_ctValue (v : (List (Int) × Int)) : Option Int := (s_ctValue_t v).run
noncomputable def s_ctValue_E : TEnv := E0
theorem s_ctValue_Eok : (s_ctValue_E).OK := E0ok
noncomputable def s_ctValue_told : Nat → Option SealT := fun id => if id = 3 then some (LSh.told s_ctValue_L3_sh 0 (s_ctValue_L3_step)) else none
theorem s_ctValue_L3_ok : ToldOK Try.prog 0 (loopAt (bodyOf fn_s_ctValue) [0]) (LSh.told s_ctValue_L3_sh 0 (s_ctValue_L3_step)) :=
  loop_ok (E := s_ctValue_E) (s_ctValue_Eok) (told := s_ctValue_told) (l := s_ctValue_L3_sh) (step := s_ctValue_L3_step) (loopsOK_of (ls := []) (by kernel_rfl) trivial) (by kernel_rfl) (fun v => by kernel_rfl)
theorem s_ctValue_ok : FOK Try.prog n_s_ctValue s_ctValue_sh s_ctValue_fo s_ctValue :=
  fn_ok (E := s_ctValue_E) (s_ctValue_Eok) (told := s_ctValue_told) (fl := []) (c := bodyOf fn_s_ctValue) (s := s_ctValue_sh) (l := s_ctValue_fo) (tree := s_ctValue_t) fnat_s_ctValue (by kernel_rfl) (by kernel_rfl) (by kernel_rfl) (loopsOK_of (ls := [loopAt (bodyOf fn_s_ctValue) [0]]) (by kernel_rfl) ⟨.inr ⟨_, by kernel_rfl, s_ctValue_L3_ok⟩, trivial⟩) (fun v => by kernel_rfl)

theorem s_ctValue_eq (l : List Int) (sign : Int) (hs : sign = 1 ∨ sign = -1) (hl : l.length ≤ 10) (ht : ∀ x ∈ l, -30 ≤ x ∧ x ≤ 30) : s_ctValue (l, sign) = some (cont sign l) := by
  have h := loop_fold (step := fun v => (s_ctValue_L3_step v).run) (xs := l) (fun k p => cfB k p) (fun k p => (sign, p.1, p.2, l, (l.length : Int), (k : Int))) (cf sign) (fun p => p.2)
    (fun k p x hP hx => by
      have hk := getElem?_lt hx
      have hb := cfB_step hs hP (ht x (List.mem_of_getElem? hx))
      have hp := pw_le (k := k + 1) (by omega)
      have hp2 := pw_succ k
      obtain ⟨h1, h2, h3, h4⟩ := hP
      obtain ⟨⟨g1, g2, g3, g4⟩, g5, g6⟩ := hb
      simp only [s_ctValue_L3_step, T.run, Option.bind_some, Int.toNat_natCast, hx]
      simp only [cf] at g3 g4
      have e1 : w64 (x * p.2) = x * p.2 := w64_id (by omega) (by omega)
      have e2 : w64 (sign * p.1) = sign * p.1 := by rcases hs with rfl | rfl <;> exact w64_id (by omega) (by omega)
      rw [e1, e2, w64_id (by omega) (by omega), w64_id (by omega) (by omega)]
      exact ⟨by simp [hk, cf], ⟨g1, g2, g3, g4⟩⟩)
    (fun s hP => by simp [s_ctValue_L3_step, T.run]) (0, 1) (by simp [cfB, pw])
  simp only [s_ctValue, s_ctValue_t, T.run, s_ctValue_L3]
  simp only [Int.natCast_zero] at h
  rw [h.1]
  rfl


def s_mxList_sh : FSh := ⟨[(.one (.sl (.int .i64) false false))], []⟩

def s_mxList_fo : List FO := [⟨[(.ag [(.si .i64), (.si .i64), (.si .i64), (.si .i64)])], []⟩]
noncomputable def s_mxList_t : List (Int) → T (Int × Int × Int × Int) := fun list =>
  (.test (((List.length list) : Int) == 0)
  (.sub (s_mxOne ()) fun z0 =>
   (.ret (z0.1, (z0.2.1, (z0.2.2.1, z0.2.2.2)))))
  (.sub (s_ctValue (list, (-1))) fun z1 =>
   (.test (decide (0 ≤ (w64 (((List.length list) : Int) - 1))))
   (.test (decide ((0 ≤ (Int.toNat (w64 (((List.length list) : Int) - 1)))) ∧ ((Int.toNat (w64 (((List.length list) : Int) - 1))) ≤ (List.length list))))
    (.sub (s_ctValue ((win list 0 ((Int.toNat (w64 (((List.length list) : Int) - 1))) - 0)), (-1))) fun z2 =>
     (.test true
     (.test (decide ((1 ≤ (List.length list)) ∧ ((List.length list) ≤ (List.length list))))
      (.sub (s_ctValue ((win list 1 ((List.length list) - 1)), (-1))) fun z3 =>
       (.test (decide (((List.length list) : Int) > 1))
       (.test true
        (.test (decide (0 ≤ (w64 (((List.length list) : Int) - 1))))
         (.test (decide ((1 ≤ (Int.toNat (w64 (((List.length list) : Int) - 1)))) ∧ ((Int.toNat (w64 (((List.length list) : Int) - 1))) ≤ (List.length list))))
          (.sub (s_ctValue ((win list 1 ((Int.toNat (w64 (((List.length list) : Int) - 1))) - 1)), (-1))) fun z4 =>
           (.ret (z1, ((w64 (0 - z2)), (z3, (w64 (0 - z4)))))))
          .fail)
         .fail)
        .fail)
       (.ret (z1, ((w64 (0 - z2)), (z3, (0 : Int)))))))
      .fail)
     .fail))
    .fail)
   .fail)))
noncomputable def s_mxList (v : List (Int)) : Option (Int × Int × Int × Int) := (s_mxList_t v).run
noncomputable def s_mxList_E : TEnv := ((E0.add1 n_s_mxOne s_mxOne_sh s_mxOne_fo s_mxOne).add1 n_s_ctValue s_ctValue_sh s_ctValue_fo s_ctValue)
theorem s_mxList_Eok : (s_mxList_E).OK := ((E0ok.add1 s_mxOne_ok).add1 s_ctValue_ok)
noncomputable def s_mxList_told : Nat → Option SealT := fun id => none
theorem s_mxList_ok : FOK Try.prog n_s_mxList s_mxList_sh s_mxList_fo s_mxList :=
  fn_ok (E := s_mxList_E) (s_mxList_Eok) (told := s_mxList_told) (fl := []) (c := bodyOf fn_s_mxList) (s := s_mxList_sh) (l := s_mxList_fo) (tree := s_mxList_t) fnat_s_mxList (by kernel_rfl) (by kernel_rfl) (by kernel_rfl) (loopsOK_of (ls := []) (by kernel_rfl) trivial) (fun v => by kernel_rfl)

theorem s_mxList_eq (l : List Int) (h : isTerms l = true) : s_mxList l = some (mOf l) := by
  obtain ⟨hl, ht⟩ := isTerms_iff.1 h
  cases l with
  | nil => simp [s_mxList, s_mxList_t, T.run, s_mxOne_eq, mOf, one4]
  | cons b t =>
    have hb := mOf_B (b :: t) ht
    have hp := pw_le (k := (b :: t).length) (by omega)
    have ht' : ∀ x ∈ t, -30 ≤ x ∧ x ≤ 30 := fun x hx => ht x (List.mem_cons_of_mem _ hx)
    simp only [List.length_cons] at hl hp hb
    have e2 : w64 (((t.length + 1 : Nat) : Int) - 1) = (t.length : Int) := by rw [w64_id (by omega) (by omega)]; omega
    have e3 : win (b :: t) 0 t.length = (b :: t).dropLast := by rw [win_take, List.dropLast_eq_take]; simp
    have e4 : win (b :: t) 1 t.length = t := by unfold win; simp
    have e5 : win (b :: t) 1 (t.length - 1) = t.dropLast := by unfold win; simp [List.dropLast_eq_take]
    have hd : ∀ x ∈ (b :: t).dropLast, -30 ≤ x ∧ x ≤ 30 := fun x hx => ht x (by rw [List.dropLast_eq_take] at hx; exact List.mem_of_mem_take hx)
    have hd2 : ∀ x ∈ t.dropLast, -30 ≤ x ∧ x ≤ 30 := fun x hx => ht' x (by rw [List.dropLast_eq_take] at hx; exact List.mem_of_mem_take hx)
    have hc1 := s_ctValue_eq (b :: t) (-1) (.inr rfl) (by simpa using hl) ht
    have hc2 := s_ctValue_eq (b :: t).dropLast (-1) (.inr rfl) (by simp; omega) hd
    have hc3 := s_ctValue_eq t (-1) (.inr rfl) (by omega) ht'
    have hc4 := s_ctValue_eq t.dropLast (-1) (.inr rfl) (by simp; omega) hd2
    have f1 := cont2_fst (-1) (b :: t)
    have f2 := cont2_fst (-1) t
    simp only [mOf, f1, f2, reduceCtorEq, if_false, in4] at hb ⊢
    simp only [s_mxList, s_mxList_t, T.run, List.length_cons, e2, Int.toNat_natCast, Nat.sub_zero, Nat.add_sub_cancel, hc1, Option.bind_some, e3, e4, e5, hc2, hc3, hc4]
    have n1 : w64 (0 - cont (-1) (b :: t).dropLast) = -cont (-1) (b :: t).dropLast := by rw [w64_id (by omega) (by omega)]; omega
    by_cases h0 : t = []
    · subst h0
      rw [n1]
      simp
    · have hpos : 0 < t.length := List.length_pos_iff.2 h0
      simp only [if_neg h0] at hb ⊢
      have n2 : w64 (0 - cont (-1) t.dropLast) = -cont (-1) t.dropLast := by rw [w64_id (by omega) (by omega)]; omega
      rw [n1, n2]
      simp [show ¬ ((t.length : Int) + 1 = 0) by omega, show 1 < (t.length : Int) + 1 by omega, show 1 ≤ t.length by omega]


def s_mxGood_sh : FSh := ⟨[(.ag [(.si .i64), (.si .i64), (.si .i64), (.si .i64)])], []⟩

def s_mxGood_fo : List FO := [⟨[(.one .sb)], []⟩]
noncomputable def s_mxGood_t : (Int × Int × Int × Int) → T Bool := fun (m_0, m_1, m_2, m_3) =>
  (.test (decide (4 ≤ (List.length (List.set (List.set (List.set (List.set (List.replicate 4 (0 : Int)) 0 m_0) 1 m_1) 2 m_2) 3 m_3))))
  (.sub (s_l1All ((win (List.set (List.set (List.set (List.set (List.replicate 4 (0 : Int)) 0 m_0) 1 m_1) 2 m_2) 3 m_3) 0 4), ((-1000000000), (1000000000 : Int)))) fun z0 =>
   (.test z0
   (.ret ((w64 ((w64 (m_0 * m_3)) - (w64 (m_1 * m_2)))) == 1))
   (.ret false)))
  .fail)
noncomputable def s_mxGood (v : (Int × Int × Int × Int)) : Option Bool := (s_mxGood_t v).run
noncomputable def s_mxGood_E : TEnv := (E0.add1 n_s_l1All s_l1All_sh s_l1All_fo s_l1All)
theorem s_mxGood_Eok : (s_mxGood_E).OK := (E0ok.add1 s_l1All_ok)
noncomputable def s_mxGood_told : Nat → Option SealT := fun id => none
theorem s_mxGood_ok : FOK Try.prog n_s_mxGood s_mxGood_sh s_mxGood_fo s_mxGood :=
  fn_ok (E := s_mxGood_E) (s_mxGood_Eok) (told := s_mxGood_told) (fl := []) (c := bodyOf fn_s_mxGood) (s := s_mxGood_sh) (l := s_mxGood_fo) (tree := s_mxGood_t) fnat_s_mxGood (by kernel_rfl) (by kernel_rfl) (by kernel_rfl) (loopsOK_of (ls := []) (by kernel_rfl) trivial) (fun v => by kernel_rfl)

theorem s_mxGood_eq (m : M4) : s_mxGood m = some (good4 m) := by
  obtain ⟨a, b, c, d⟩ := m
  simp only [s_mxGood, s_mxGood_t, T.run]
  have e : win (List.set (List.set (List.set (List.set (List.replicate 4 (0 : Int)) 0 a) 1 b) 2 c) 3 d) 0 4 = [a, b, c, d] := rfl
  rw [e, s_l1All_eq _ _ _ (by simp)]
  simp only [List.length_set, List.length_replicate, Option.bind_some, good4, List.all_cons, List.all_nil, Bool.and_true]
  cases h : inB (-1000000000) 1000000000 a && (inB (-1000000000) 1000000000 b && (inB (-1000000000) 1000000000 c && inB (-1000000000) 1000000000 d)) with
  | false => simp
  | true =>
    simp only [Bool.and_eq_true, inB_iff] at h
    rw [det_w h.1 h.2.1 h.2.2.1 h.2.2.2]
    simp [beq_int]


def s_mxIf_sh : FSh := ⟨[(.ag [(.si .i64), (.si .i64), (.si .i64), (.si .i64)])], []⟩

def s_mxIf_fo : List FO := [⟨[(.ag [(.si .i64), (.si .i64), (.si .i64), (.si .i64)]), (.one .sb)], []⟩]
noncomputable def s_mxIf_t : (Int × Int × Int × Int) → T ((Int × Int × Int × Int) × Bool) := fun (m_0, m_1, m_2, m_3) =>
  (.sub (s_mxGood (m_0, (m_1, (m_2, m_3)))) fun z0 =>
  (.test (! z0)
  (.ret (((0 : Int), ((0 : Int), ((0 : Int), (0 : Int)))), false))
  (.ret ((m_0, (m_1, (m_2, m_3))), true))))
noncomputable def s_mxIf (v : (Int × Int × Int × Int)) : Option ((Int × Int × Int × Int) × Bool) := (s_mxIf_t v).run
noncomputable def s_mxIf_E : TEnv := (E0.add1 n_s_mxGood s_mxGood_sh s_mxGood_fo s_mxGood)
theorem s_mxIf_Eok : (s_mxIf_E).OK := (E0ok.add1 s_mxGood_ok)
noncomputable def s_mxIf_told : Nat → Option SealT := fun id => none
theorem s_mxIf_ok : FOK Try.prog n_s_mxIf s_mxIf_sh s_mxIf_fo s_mxIf :=
  fn_ok (E := s_mxIf_E) (s_mxIf_Eok) (told := s_mxIf_told) (fl := []) (c := bodyOf fn_s_mxIf) (s := s_mxIf_sh) (l := s_mxIf_fo) (tree := s_mxIf_t) fnat_s_mxIf (by kernel_rfl) (by kernel_rfl) (by kernel_rfl) (loopsOK_of (ls := []) (by kernel_rfl) trivial) (fun v => by kernel_rfl)

theorem s_mxIf_eq (m : M4) : s_mxIf m = some (if good4 m then (m, true) else ((0, 0, 0, 0), false)) := by
  obtain ⟨a, b, c, d⟩ := m
  simp only [s_mxIf, s_mxIf_t, T.run, s_mxGood_eq, Option.bind_some]
  cases good4 (a, b, c, d) <;> simp
theorem good4_in {m : M4} (h : good4 m = true) : in4 1000000000 m := by
  obtain ⟨a, b, c, d⟩ := m
  rw [good4_iff] at h
  simp only [in4]; omega


def s_MatrixOfList_sh : FSh := ⟨[(.one (.sl (.int .i64) false false))], []⟩

def s_MatrixOfList_fo : List FO := [⟨[(.ag [(.si .i64), (.si .i64), (.si .i64), (.si .i64)]), (.one .sb)], []⟩]
noncomputable def s_MatrixOfList_t : List (Int) → T ((Int × Int × Int × Int) × Bool) := fun list =>
  (.sub (s_ctGood list) fun z0 =>
  (.test (! z0)
  (.ret (((0 : Int), ((0 : Int), ((0 : Int), (0 : Int)))), false))
  (.sub (s_mxList list) fun z1 =>
   (.sub (s_mxIf (z1.1, (z1.2.1, (z1.2.2.1, z1.2.2.2)))) fun z2 =>
   (.ret ((z2.1.1, (z2.1.2.1, (z2.1.2.2.1, z2.1.2.2.2))), z2.2))))))
noncomputable def s_MatrixOfList (v : List (Int)) : Option ((Int × Int × Int × Int) × Bool) := (s_MatrixOfList_t v).run
noncomputable def s_MatrixOfList_E : TEnv := (((E0.add1 n_s_ctGood s_ctGood_sh s_ctGood_fo s_ctGood).add1 n_s_mxList s_mxList_sh s_mxList_fo s_mxList).add1 n_s_mxIf s_mxIf_sh s_mxIf_fo s_mxIf)
theorem s_MatrixOfList_Eok : (s_MatrixOfList_E).OK := (((E0ok.add1 s_ctGood_ok).add1 s_mxList_ok).add1 s_mxIf_ok)
noncomputable def s_MatrixOfList_told : Nat → Option SealT := fun id => none
theorem s_MatrixOfList_ok : FOK Try.prog n_s_MatrixOfList s_MatrixOfList_sh s_MatrixOfList_fo s_MatrixOfList :=
  fn_ok (E := s_MatrixOfList_E) (s_MatrixOfList_Eok) (told := s_MatrixOfList_told) (fl := []) (c := bodyOf fn_s_MatrixOfList) (s := s_MatrixOfList_sh) (l := s_MatrixOfList_fo) (tree := s_MatrixOfList_t) fnat_s_MatrixOfList (by kernel_rfl) (by kernel_rfl) (by kernel_rfl) (loopsOK_of (ls := []) (by kernel_rfl) trivial) (fun v => by kernel_rfl)

theorem s_MatrixOfList_eq (l : List Int) (hl : l.length < 4611686018427387904) : s_MatrixOfList l = some (if isTerms l && good4 (mOf l) then (mOf l, true) else ((0, 0, 0, 0), false)) := by
  simp only [s_MatrixOfList, s_MatrixOfList_t, T.run, s_ctGood_eq l hl, Option.bind_some]
  cases h : isTerms l with
  | false => simp
  | true =>
    simp only [Bool.not_true, Bool.false_eq_true, if_false, s_mxList_eq l h, Option.bind_some, s_mxIf_eq, Bool.true_and]


def i_continuant_sh : FSh := ⟨[(.one (.sl (.int .i64) false false)), (.one (.si .i64))], []⟩

def i_continuant_L3_sh : LSh := ⟨(fun ex => match ex with | .norm => [(1, none), (5, none), (6, none), (9, none), (10, none), (11, none)] | .exit i => if i = 0 then [(6, none)] else [] | .ret => [(4, none)]), [(1, (.one (.si .i64))), (5, (.one (.si .i64))), (6, (.one (.si .i64))), (9, (.one (.sl (.int .i64) false false))), (10, (.one (.si .i64))), (11, (.one (.si .i64)))], [], [⟨(.exit 0), [(6, (.one (.si .i64)))], []⟩], [], []⟩
noncomputable def i_continuant_L3_step : (Int × Int × Int × List (Int) × Int × Int) → T ((Int × Int × Int × List (Int) × Int × Int) ⊕ Int) := fun (sign, before, out, t9, t10, t11) =>
  (.test (decide (t11 < t10))
  (.test (decide ((0 ≤ t11) ∧ (t11 < ((List.length t9) : Int))))
   (.sub (t9[(Int.toNat t11)]?) fun z0 =>
    (.ret (Sum.inl (sign, (out, ((w64 ((w64 (z0 * out)) + (w64 (sign * before)))), (t9, (t10, (w64 (t11 + 1))))))))))
   .fail)
  (.ret (Sum.inr out)))
noncomputable def i_continuant_L3 (v : (Int × Int × Int × List (Int) × Int × Int)) : Option Int := loopO (fun v => (i_continuant_L3_step v).run) v

def i_continuant_fo : List FO := [⟨[(.one (.si .i64))], []⟩]
noncomputable def i_continuant_t : (List (Int) × Int) → T Int := fun (list, sign) =>
  (.sub (i_continuant_L3 (sign, ((0 : Int), ((1 : Int), (list, (((List.length list) : Int), (0 : Int))))))) fun z0 =>
  (.ret z0))
noncomputable def i_continuant (v : (List (Int) × Int)) : Option Int := (i_continuant_t v).run
noncomputable def i_continuant_E : TEnv := E0
theorem i_continuant_Eok : (i_continuant_E).OK := E0ok
noncomputable def i_continuant_told : Nat → Option SealT := fun id => if id = 3 then some (LSh.told i_continuant_L3_sh 0 (i_continuant_L3_step)) else none
theorem i_continuant_L3_ok : ToldOK Try.prog 0 (loopAt (bodyOf fn_i_continuant) [0]) (LSh.told i_continuant_L3_sh 0 (i_continuant_L3_step)) :=
  loop_ok (E := i_continuant_E) (i_continuant_Eok) (told := i_continuant_told) (l := i_continuant_L3_sh) (step := i_continuant_L3_step) (loopsOK_of (ls := []) (by kernel_rfl) trivial) (by kernel_rfl) (fun v => by kernel_rfl)
theorem i_continuant_ok : FOK Try.prog n_i_continuant i_continuant_sh i_continuant_fo i_continuant :=
  fn_ok (E := i_continuant_E) (i_continuant_Eok) (told := i_continuant_told) (fl := []) (c := bodyOf fn_i_continuant) (s := i_continuant_sh) (l := i_continuant_fo) (tree := i_continuant_t) fnat_i_continuant (by kernel_rfl) (by kernel_rfl) (by kernel_rfl) (loopsOK_of (ls := [loopAt (bodyOf fn_i_continuant) [0]]) (by kernel_rfl) ⟨.inr ⟨_, by kernel_rfl, i_continuant_L3_ok⟩, trivial⟩) (fun v => by kernel_rfl)

def i_ContinuantOf_sh : FSh := ⟨[(.one (.sl (.int .i64) false false))], []⟩

def i_ContinuantOf_fo : List FO := [⟨[(.one (.si .i64)), (.one .sb)], []⟩]
noncomputable def i_ContinuantOf_t : List (Int) → T (Int × Bool) := fun list =>
  (.sub (i_IsTermList list) fun z0 =>
  (.test (! z0)
  (.ret ((0 : Int), false))
  (.sub (i_continuant (list, (-1))) fun z1 =>
   (.ret (z1, true)))))
noncomputable def i_ContinuantOf (v : List (Int)) : Option (Int × Bool) := (i_ContinuantOf_t v).run
noncomputable def i_ContinuantOf_E : TEnv := ((E0.add1 n_i_IsTermList i_IsTermList_sh i_IsTermList_fo i_IsTermList).add1 n_i_continuant i_continuant_sh i_continuant_fo i_continuant)
theorem i_ContinuantOf_Eok : (i_ContinuantOf_E).OK := ((E0ok.add1 i_IsTermList_ok).add1 i_continuant_ok)
noncomputable def i_ContinuantOf_told : Nat → Option SealT := fun id => none
theorem i_ContinuantOf_ok : FOK Try.prog n_i_ContinuantOf i_ContinuantOf_sh i_ContinuantOf_fo i_ContinuantOf :=
  fn_ok (E := i_ContinuantOf_E) (i_ContinuantOf_Eok) (told := i_ContinuantOf_told) (fl := []) (c := bodyOf fn_i_ContinuantOf) (s := i_ContinuantOf_sh) (l := i_ContinuantOf_fo) (tree := i_ContinuantOf_t) fnat_i_ContinuantOf (by kernel_rfl) (by kernel_rfl) (by kernel_rfl) (loopsOK_of (ls := []) (by kernel_rfl) trivial) (fun v => by kernel_rfl)

def slices_Clone_int_sh : FSh := ⟨[.one (.sl (.int .i64) false false)], []⟩
def slices_Clone_int_fo : List FO := [⟨[.one (.rw 0 0)], [.row 0 (.int .i64)]⟩]
def slices_Clone_int (v : List Int) : Option (Unit × List Int) := if v.length ≤ maxLen ∧ v.length * 8 ≤ 140737488355328 then some ((), v) else none
def slices_Clone_int_ren : Shelf.Ren := ⟨fun _ => n_slices_Clone_int, fun t => if t = 4 then 4 else if t = 22 then 24 else 3, fun x => x⟩
theorem slices_Clone_int_lay : SlLaysE0.n41 Try.prog slices_Clone_int_ren :=
  { mixed := by kernel_rfl, f41 := ⟨"slices.Clone[[]int,int]", by kernel_rfl, by kernel_rfl⟩, t4 := by kernel_rfl, a4 := fun w => by kernel_rfl, z4 := fun w => by kernel_rfl, v4 := fun w => by kernel_rfl, t22 := by kernel_rfl, a22 := fun w => by kernel_rfl, z22 := fun w => by kernel_rfl, v22 := fun w => by kernel_rfl }
noncomputable def slices_Clone_int_info : TypeInfo := (Try.prog.info? 3).get (by kernel_rfl)
theorem slices_Clone_int_ok : FOK Try.prog n_slices_Clone_int slices_Clone_int_sh slices_Clone_int_fo slices_Clone_int :=
  clone_ok (e := .int .i64) ⟨_, fnat_slices_Clone_int, by kernel_rfl, by kernel_rfl⟩ (ρr := slices_Clone_int_ren) rfl slices_Clone_int_lay rfl slices_Clone_int_info (.int .i64 0) 8 (by kernel_rfl) (by kernel_rfl) (by kernel_rfl) (by kernel_rfl) (by decide) (by decide) (fun w => by kernel_rfl)

def slices_Insert_int_sh : FSh := ⟨[.one (.rw 0 0), .one (.si .i64), .one (.rw 1 0)], [.row 0 (.int .i64), .row 0 (.int .i64)]⟩
def slices_Insert_int_fo : List FO := [⟨[.one (.rw 0 1)], [.row 1 (.int .i64), .row 0 (.int .i64)]⟩]
def slices_Insert_int (v : (Unit × Int × Unit) × (List Int × List Int)) : Option (Unit × (List Int × List Int)) := match v.2.2 with
  | [x] => if 0 ≤ v.1.2.1 ∧ v.1.2.1 ≤ (v.2.1.length : Int) ∧ v.2.1.length ≤ 1000000000000 then some ((), v.2.1.take v.1.2.1.toNat ++ [x] ++ v.2.1.drop v.1.2.1.toNat, [x]) else none
  | _ => none
def slices_Insert_int_ren : Shelf.Ren := ⟨fun k => if k = 21 then n_slices_Insert_int else if k = 27 then 73 else if k = 28 then 74 else if k = 35 then 92 else 102, fun t => if t = 0 then 0 else if t = 4 then 4 else if t = 22 then 24 else 3, fun x => x⟩
theorem slices_Insert_int_lay : Lays2.n21 Try.prog slices_Insert_int_ren :=
  { mixed := by kernel_rfl, f21 := by kernel_rfl, f27 := by kernel_rfl, f28 := by kernel_rfl, f35 := by kernel_rfl, f39 := by kernel_rfl, t0 := by kernel_rfl, a0 := fun w => by kernel_rfl, z0 := fun w => by kernel_rfl, v0 := fun w => by kernel_rfl, t3 := by kernel_rfl, a3 := fun w => by kernel_rfl, z3 := fun w => by kernel_rfl, v3 := fun w => by kernel_rfl, t4 := by kernel_rfl, a4 := fun w => by kernel_rfl, z4 := fun w => by kernel_rfl, v4 := fun w => by kernel_rfl, t22 := by kernel_rfl, a22 := fun w => by kernel_rfl, z22 := fun w => by kernel_rfl, v22 := fun w => by kernel_rfl, i3 := by kernel_rfl }
theorem slices_Insert_int_ok : FOK Try.prog n_slices_Insert_int slices_Insert_int_sh slices_Insert_int_fo slices_Insert_int :=
  insert_ok ⟨_, fnat_slices_Insert_int, by kernel_rfl, by kernel_rfl⟩ (ρr := slices_Insert_int_ren) rfl slices_Insert_int_lay

def i_listed_sh : FSh := ⟨[(.one (.rw 0 0)), (.one .sb)], [(.row 0 (.int .i64))]⟩

def i_listed_fo : List FO := [⟨[(.one (.rw 1 0)), (.one .sb)], [(.row 0 (.int .i64)), (.row 0 (.int .i64))]⟩, ⟨[(.one (.rw 0 0)), (.one .sb)], [(.row 0 (.int .i64))]⟩]
noncomputable def i_listed_t : ((Unit × Bool) × List (Int)) → T (((Unit × Bool) × (List (Int) × List (Int))) ⊕ ((Unit × Bool) × List (Int))) := fun (((), ok), list) =>
  (.test (! ok)
  (.test (decide ((0 = 0) ∧ (0 = (List.length ([] : List (Int))))))
   (.ret (Sum.inl (((), false), (list, ([] : List (Int))))))
   .fail)
  (.test (decide ((0 = 0) ∧ ((List.length list) = (List.length list))))
   (.ret (Sum.inr (((), true), list)))
   .fail))
noncomputable def i_listed (v : ((Unit × Bool) × List (Int))) : Option (((Unit × Bool) × (List (Int) × List (Int))) ⊕ ((Unit × Bool) × List (Int))) := (i_listed_t v).run
noncomputable def i_listed_E : TEnv := E0
theorem i_listed_Eok : (i_listed_E).OK := E0ok
noncomputable def i_listed_told : Nat → Option SealT := fun id => none
theorem i_listed_ok : FOK Try.prog n_i_listed i_listed_sh i_listed_fo i_listed :=
  fn_ok (E := i_listed_E) (i_listed_Eok) (told := i_listed_told) (fl := []) (c := bodyOf fn_i_listed) (s := i_listed_sh) (l := i_listed_fo) (tree := i_listed_t) fnat_i_listed (by kernel_rfl) (by kernel_rfl) (by kernel_rfl) (loopsOK_of (ls := []) (by kernel_rfl) trivial) (fun v => by kernel_rfl)

theorem i_listed_eq (ok : Bool) (l : List Int) : i_listed (((), ok), l) = some (if ok then .inr (((), true), l) else .inl (((), false), (l, []))) := by
  cases ok <;> simp [i_listed, i_listed_t, T.run]


def s_l1Own_sh : FSh := ⟨[(.one (.sl (.int .i64) false false))], []⟩

def s_l1Own_fo : List FO := [⟨[(.one (.rw 0 0))], [(.row 0 (.int .i64))]⟩]
noncomputable def s_l1Own_t : List (Int) → T (Unit × List (Int)) := fun l =>
  (.test true
  (.test (decide ((2 * ((0 + (List.length l)) * 9)) ≤ 140737488355328))
   (.test (decide ((0 = 0) ∧ ((0 + (List.length l)) = (List.length ((win (List.replicate 0 (0 : Int)) 0 0) ++ l)))))
    (.ret ((), ((win (List.replicate 0 (0 : Int)) 0 0) ++ l)))
    .fail)
   .fail)
  .fail)
noncomputable def s_l1Own (v : List (Int)) : Option (Unit × List (Int)) := (s_l1Own_t v).run
noncomputable def s_l1Own_E : TEnv := E0
theorem s_l1Own_Eok : (s_l1Own_E).OK := E0ok
noncomputable def s_l1Own_told : Nat → Option SealT := fun id => none
theorem s_l1Own_ok : FOK Try.prog n_s_l1Own s_l1Own_sh s_l1Own_fo s_l1Own :=
  fn_ok (E := s_l1Own_E) (s_l1Own_Eok) (told := s_l1Own_told) (fl := []) (c := bodyOf fn_s_l1Own) (s := s_l1Own_sh) (l := s_l1Own_fo) (tree := s_l1Own_t) fnat_s_l1Own (by kernel_rfl) (by kernel_rfl) (by kernel_rfl) (loopsOK_of (ls := []) (by kernel_rfl) trivial) (fun v => by kernel_rfl)

theorem s_l1Own_eq (l : List Int) (hl : l.length < 1000000000000) : s_l1Own l = some ((), l) := by
  have h : 2 * (l.length * 9) ≤ 140737488355328 := by omega
  have hw : win ([] : List Int) 0 0 = [] := rfl
  simp [s_l1Own, s_l1Own_t, T.run, hw, h]


def s_PutOne_sh : FSh := ⟨[(.one (.sl (.int .i64) false false)), (.one (.si .i64))], []⟩

def s_PutOne_fo : List FO := [⟨[(.one (.rw 0 0)), (.one .sb)], [(.row 0 (.int .i64))]⟩]
noncomputable def s_PutOne_t : (List (Int) × Int) → T ((Unit × Bool) × List (Int)) := fun (list, at') =>
  (.sub (s_ctGood list) fun z0 =>
  (.test (! z0)
  (.test true
   (.ret (((), false), ([] : List (Int))))
   .fail)
  (.sub (s_l1In (at', ((1 : Int), (w64 (((List.length list) : Int) - 1))))) fun z1 =>
   (.test (! z1)
   (.test true
    (.ret (((), false), ([] : List (Int))))
    .fail)
   (.test (decide (0 ≤ at'))
    (.test (decide ((0 ≤ (Int.toNat at')) ∧ ((Int.toNat at') ≤ (List.length list))))
     (.sub (s_l1Own (win list 0 ((Int.toNat at') - 0))) fun z2 =>
      (.test true
      (.test (decide ((0 + (List.length z2.2)) ≤ (List.length z2.2)))
       (.test (decide ((2 * (((List.length z2.2) + 1) * 9)) ≤ 140737488355328))
        (.test (decide (0 ≤ at'))
         (.test (decide (((Int.toNat at') ≤ (List.length list)) ∧ ((List.length list) ≤ (List.length list))))
          (.test (decide ((0 + ((List.length z2.2) + 1)) ≤ (List.length ((win z2.2 0 (List.length z2.2)) ++ (win (List.set (List.replicate 1 (0 : Int)) 0 (1 : Int)) 0 1)))))
           (.test (decide ((2 * ((((List.length z2.2) + 1) + (List.length (win list (Int.toNat at') ((List.length list) - (Int.toNat at'))))) * 9)) ≤ 140737488355328))
            (.test (decide ((0 ≤ (w64 (at' - 1))) ∧ ((w64 (at' - 1)) < ((((List.length z2.2) + 1) + (List.length (win list (Int.toNat at') ((List.length list) - (Int.toNat at'))))) : Int))))
             (.sub (((win ((win z2.2 0 (List.length z2.2)) ++ (win (List.set (List.replicate 1 (0 : Int)) 0 (1 : Int)) 0 1)) 0 ((List.length z2.2) + 1)) ++ (win list (Int.toNat at') ((List.length list) - (Int.toNat at'))))[(0 + (Int.toNat (w64 (at' - 1))))]?) fun z3 =>
              (.test (decide ((0 ≤ (w64 (at' - 1))) ∧ ((w64 (at' - 1)) < ((((List.length z2.2) + 1) + (List.length (win list (Int.toNat at') ((List.length list) - (Int.toNat at'))))) : Int))))
              (.sub (((win ((win z2.2 0 (List.length z2.2)) ++ (win (List.set (List.replicate 1 (0 : Int)) 0 (1 : Int)) 0 1)) 0 ((List.length z2.2) + 1)) ++ (win list (Int.toNat at') ((List.length list) - (Int.toNat at'))))[(0 + (Int.toNat (w64 (at' - 1))))]?) fun z4 =>
               (.test (decide ((0 ≤ (w64 (at' + 1))) ∧ ((w64 (at' + 1)) < ((((List.length z2.2) + 1) + (List.length (win list (Int.toNat at') ((List.length list) - (Int.toNat at'))))) : Int))))
               (.sub ((List.set ((win ((win z2.2 0 (List.length z2.2)) ++ (win (List.set (List.replicate 1 (0 : Int)) 0 (1 : Int)) 0 1)) 0 ((List.length z2.2) + 1)) ++ (win list (Int.toNat at') ((List.length list) - (Int.toNat at')))) (0 + (Int.toNat (w64 (at' - 1)))) (w64 (z3 + 1)))[(0 + (Int.toNat (w64 (at' + 1))))]?) fun z5 =>
                (.test (decide ((0 ≤ (w64 (at' + 1))) ∧ ((w64 (at' + 1)) < ((((List.length z2.2) + 1) + (List.length (win list (Int.toNat at') ((List.length list) - (Int.toNat at'))))) : Int))))
                (.sub ((List.set ((win ((win z2.2 0 (List.length z2.2)) ++ (win (List.set (List.replicate 1 (0 : Int)) 0 (1 : Int)) 0 1)) 0 ((List.length z2.2) + 1)) ++ (win list (Int.toNat at') ((List.length list) - (Int.toNat at')))) (0 + (Int.toNat (w64 (at' - 1)))) (w64 (z3 + 1)))[(0 + (Int.toNat (w64 (at' + 1))))]?) fun z6 =>
                 (.test (decide ((0 + (((List.length z2.2) + 1) + (List.length (win list (Int.toNat at') ((List.length list) - (Int.toNat at')))))) ≤ (List.length (List.set (List.set ((win ((win z2.2 0 (List.length z2.2)) ++ (win (List.set (List.replicate 1 (0 : Int)) 0 (1 : Int)) 0 1)) 0 ((List.length z2.2) + 1)) ++ (win list (Int.toNat at') ((List.length list) - (Int.toNat at')))) (0 + (Int.toNat (w64 (at' - 1)))) (w64 (z3 + 1))) (0 + (Int.toNat (w64 (at' + 1)))) (w64 (z5 + 1))))))
                 (.sub (s_ctGood (win (List.set (List.set ((win ((win z2.2 0 (List.length z2.2)) ++ (win (List.set (List.replicate 1 (0 : Int)) 0 (1 : Int)) 0 1)) 0 ((List.length z2.2) + 1)) ++ (win list (Int.toNat at') ((List.length list) - (Int.toNat at')))) (0 + (Int.toNat (w64 (at' - 1)))) (w64 (z3 + 1))) (0 + (Int.toNat (w64 (at' + 1)))) (w64 (z5 + 1))) 0 (((List.length z2.2) + 1) + (List.length (win list (Int.toNat at') ((List.length list) - (Int.toNat at'))))))) fun z7 =>
                  (.test (! z7)
                  (.test true
                   (.ret (((), false), ([] : List (Int))))
                   .fail)
                  (.test (decide ((0 = 0) ∧ ((((List.length z2.2) + 1) + (List.length (win list (Int.toNat at') ((List.length list) - (Int.toNat at'))))) = (List.length (List.set (List.set ((win ((win z2.2 0 (List.length z2.2)) ++ (win (List.set (List.replicate 1 (0 : Int)) 0 (1 : Int)) 0 1)) 0 ((List.length z2.2) + 1)) ++ (win list (Int.toNat at') ((List.length list) - (Int.toNat at')))) (0 + (Int.toNat (w64 (at' - 1)))) (w64 (z3 + 1))) (0 + (Int.toNat (w64 (at' + 1)))) (w64 (z5 + 1)))))))
                   (.ret (((), true), (List.set (List.set ((win ((win z2.2 0 (List.length z2.2)) ++ (win (List.set (List.replicate 1 (0 : Int)) 0 (1 : Int)) 0 1)) 0 ((List.length z2.2) + 1)) ++ (win list (Int.toNat at') ((List.length list) - (Int.toNat at')))) (0 + (Int.toNat (w64 (at' - 1)))) (w64 (z3 + 1))) (0 + (Int.toNat (w64 (at' + 1)))) (w64 (z5 + 1)))))
                   .fail)))
                 .fail))
                .fail))
               .fail))
              .fail))
             .fail)
            .fail)
           .fail)
          .fail)
         .fail)
        .fail)
       .fail)
      .fail))
     .fail)
    .fail)))))
noncomputable def s_PutOne (v : (List (Int) × Int)) : Option ((Unit × Bool) × List (Int)) := (s_PutOne_t v).run
noncomputable def s_PutOne_E : TEnv := (((E0.add1 n_s_ctGood s_ctGood_sh s_ctGood_fo s_ctGood).add1 n_s_l1In s_l1In_sh s_l1In_fo s_l1In).add1 n_s_l1Own s_l1Own_sh s_l1Own_fo s_l1Own)
theorem s_PutOne_Eok : (s_PutOne_E).OK := (((E0ok.add1 s_ctGood_ok).add1 s_l1In_ok).add1 s_l1Own_ok)
noncomputable def s_PutOne_told : Nat → Option SealT := fun id => none
theorem s_PutOne_ok : FOK Try.prog n_s_PutOne s_PutOne_sh s_PutOne_fo s_PutOne :=
  fn_ok (E := s_PutOne_E) (s_PutOne_Eok) (told := s_PutOne_told) (fl := []) (c := bodyOf fn_s_PutOne) (s := s_PutOne_sh) (l := s_PutOne_fo) (tree := s_PutOne_t) fnat_s_PutOne (by kernel_rfl) (by kernel_rfl) (by kernel_rfl) (loopsOK_of (ls := []) (by kernel_rfl) trivial) (fun v => by kernel_rfl)

def i_PutOne_sh : FSh := ⟨[(.one (.sl (.int .i64) false false)), (.one (.si .i64))], []⟩

def i_PutOne_fo : List FO := [⟨[(.one (.rw 0 0)), (.one .sb)], [(.row 0 (.int .i64))]⟩]
noncomputable def i_PutOne_t : (List (Int) × Int) → T ((Unit × Bool) × List (Int)) := fun (list, at') =>
  (.sub (i_IsTermList list) fun z0 =>
  (.test (! z0)
  (.test true
   (.ret (((), false), ([] : List (Int))))
   .fail)
  (.sub (i_within (at', ((1 : Int), (w64 (((List.length list) : Int) - 1))))) fun z1 =>
   (.test (! z1)
   (.test true
    (.ret (((), false), ([] : List (Int))))
    .fail)
   (.sub (slices_Clone_int list) fun z2 =>
    (.test (decide ((0 = 0) ∧ ((List.length z2.2) = (List.length z2.2))))
    (.test (decide ((0 = 0) ∧ (1 = (List.length (List.set (List.replicate 1 (0 : Int)) 0 (1 : Int))))))
     (.sub (slices_Insert_int (((), (at', ())), (z2.2, (List.set (List.replicate 1 (0 : Int)) 0 (1 : Int))))) fun z3 =>
      (.test (decide ((0 ≤ (w64 (at' - 1))) ∧ ((w64 (at' - 1)) < ((List.length z3.2.1) : Int))))
      (.sub (z3.2.1[(0 + (Int.toNat (w64 (at' - 1))))]?) fun z4 =>
       (.test (decide ((0 ≤ (w64 (at' - 1))) ∧ ((w64 (at' - 1)) < ((List.length z3.2.1) : Int))))
       (.sub (z3.2.1[(0 + (Int.toNat (w64 (at' - 1))))]?) fun z5 =>
        (.test (decide ((0 ≤ (w64 (at' + 1))) ∧ ((w64 (at' + 1)) < ((List.length z3.2.1) : Int))))
        (.sub ((List.set z3.2.1 (0 + (Int.toNat (w64 (at' - 1)))) (w64 (z4 + 1)))[(0 + (Int.toNat (w64 (at' + 1))))]?) fun z6 =>
         (.test (decide ((0 ≤ (w64 (at' + 1))) ∧ ((w64 (at' + 1)) < ((List.length z3.2.1) : Int))))
         (.sub ((List.set z3.2.1 (0 + (Int.toNat (w64 (at' - 1)))) (w64 (z4 + 1)))[(0 + (Int.toNat (w64 (at' + 1))))]?) fun z7 =>
          (.test (decide ((0 + (List.length z3.2.1)) ≤ (List.length (List.set (List.set z3.2.1 (0 + (Int.toNat (w64 (at' - 1)))) (w64 (z4 + 1))) (0 + (Int.toNat (w64 (at' + 1)))) (w64 (z6 + 1))))))
          (.sub (i_IsTermList (win (List.set (List.set z3.2.1 (0 + (Int.toNat (w64 (at' - 1)))) (w64 (z4 + 1))) (0 + (Int.toNat (w64 (at' + 1)))) (w64 (z6 + 1))) 0 (List.length z3.2.1))) fun z8 =>
           (.test (decide ((0 = 0) ∧ ((List.length z3.2.1) = (List.length (List.set (List.set z3.2.1 (0 + (Int.toNat (w64 (at' - 1)))) (w64 (z4 + 1))) (0 + (Int.toNat (w64 (at' + 1)))) (w64 (z6 + 1)))))))
           (.sub (i_listed (((), z8), (List.set (List.set z3.2.1 (0 + (Int.toNat (w64 (at' - 1)))) (w64 (z4 + 1))) (0 + (Int.toNat (w64 (at' + 1)))) (w64 (z6 + 1))))) fun z9 =>
            (.test (Sum.isLeft z9)
            (.sub (Sum.getLeft? z9) fun z10 =>
             (.test (decide ((0 = 0) ∧ ((List.length z10.2.2) = (List.length z10.2.2))))
             (.ret (((), z10.1.2), z10.2.2))
             .fail))
            (.sub (Sum.getRight? z9) fun z11 =>
             (.test (decide ((0 = 0) ∧ ((List.length z11.2) = (List.length z11.2))))
             (.ret (((), z11.1.2), z11.2))
             .fail))))
           .fail))
          .fail))
         .fail))
        .fail))
       .fail))
      .fail))
     .fail)
    .fail))))))
noncomputable def i_PutOne (v : (List (Int) × Int)) : Option ((Unit × Bool) × List (Int)) := (i_PutOne_t v).run
noncomputable def i_PutOne_E : TEnv := (((((E0.add1 n_i_IsTermList i_IsTermList_sh i_IsTermList_fo i_IsTermList).add1 n_i_within i_within_sh i_within_fo i_within).add1 n_slices_Clone_int slices_Clone_int_sh slices_Clone_int_fo slices_Clone_int).add1 n_slices_Insert_int slices_Insert_int_sh slices_Insert_int_fo slices_Insert_int).add1 n_i_listed i_listed_sh i_listed_fo i_listed)
theorem i_PutOne_Eok : (i_PutOne_E).OK := (((((E0ok.add1 i_IsTermList_ok).add1 i_within_ok).add1 slices_Clone_int_ok).add1 slices_Insert_int_ok).add1 i_listed_ok)
noncomputable def i_PutOne_told : Nat → Option SealT := fun id => none
theorem i_PutOne_ok : FOK Try.prog n_i_PutOne i_PutOne_sh i_PutOne_fo i_PutOne :=
  fn_ok (E := i_PutOne_E) (i_PutOne_Eok) (told := i_PutOne_told) (fl := []) (c := bodyOf fn_i_PutOne) (s := i_PutOne_sh) (l := i_PutOne_fo) (tree := i_PutOne_t) fnat_i_PutOne (by kernel_rfl) (by kernel_rfl) (by kernel_rfl) (loopsOK_of (ls := []) (by kernel_rfl) trivial) (fun v => by kernel_rfl)

theorem put_i (L R : List Int) (x y : Int) (hx : -30 ≤ x ∧ x ≤ 30) (hy : -30 ≤ y ∧ y ≤ 30) (hl : L.length + R.length ≤ 8) (ht : isTerms (L ++ x :: y :: R) = true) :
    i_PutOne (L ++ x :: y :: R, (L.length : Int) + 1) = some (if isTerms (L ++ (x + 1) :: 1 :: (y + 1) :: R) then (((), true), L ++ (x + 1) :: 1 :: (y + 1) :: R) else (((), false), [])) := by
  have hlen : (L ++ x :: y :: R).length = L.length + R.length + 2 := by simp; omega
  have c1 : inB 1 (((L ++ x :: y :: R).length : Int) - 1) ((L.length : Int) + 1) = true := by rw [inB_iff, hlen]; omega
  have w1 : w64 (((L ++ x :: y :: R).length : Int) - 1) = ((L ++ x :: y :: R).length : Int) - 1 := w64_id (by omega) (by omega)
  have hcl : slices_Clone_int (L ++ x :: y :: R) = some ((), L ++ x :: y :: R) := by unfold slices_Clone_int; rw [if_pos (by unfold maxLen; omega)]
  have hins : slices_Insert_int (((), ((L.length : Int) + 1, ())), (L ++ x :: y :: R, [1])) = some ((), L ++ x :: 1 :: y :: R, [1]) := by
    unfold slices_Insert_int
    simp only
    rw [if_pos (by omega), show ((L.length : Int) + 1).toNat = L.length + 1 by omega, at_take1, at_drop1]
    simp
  have t0 : Int.toNat (w64 ((L.length : Int) + 1 - 1)) = L.length := by rw [w64_id (by omega) (by omega)]; omega
  have t2 : Int.toNat (w64 ((L.length : Int) + 1 + 1)) = L.length + 2 := by rw [w64_id (by omega) (by omega)]; omega
  have b0 : 0 ≤ w64 ((L.length : Int) + 1 - 1) ∧ w64 ((L.length : Int) + 1 - 1) < ((L ++ x :: 1 :: y :: R).length : Int) := by rw [w64_id (by omega) (by omega)]; simp; omega
  have b2 : 0 ≤ w64 ((L.length : Int) + 1 + 1) ∧ w64 ((L.length : Int) + 1 + 1) < ((L ++ x :: 1 :: y :: R).length : Int) := by rw [w64_id (by omega) (by omega)]; simp; omega
  have g0 := at_get0 L x (1 :: y :: R)
  have g2 : (L ++ (x + 1) :: 1 :: y :: R)[L.length + 2]? = some y := at_get2 L (x + 1) 1 y R
  have s0 := at_set0 L x (x + 1) (1 :: y :: R)
  have s2 := at_set2 L (x + 1) 1 y (y + 1) R
  have wx : w64 (x + 1) = x + 1 := w64_id (by omega) (by omega)
  have wy : w64 (y + 1) = y + 1 := w64_id (by omega) (by omega)
  have e1 : (L ++ x :: 1 :: y :: R).length = (L ++ (x + 1) :: 1 :: (y + 1) :: R).length := by simp
  have hlast := i_IsTermList_eq (L ++ (x + 1) :: 1 :: (y + 1) :: R) (by simp; omega)
  simp only [i_PutOne, i_PutOne_t, T.run, i_IsTermList_eq (L ++ x :: y :: R) (by omega), i_within_eq, w1, ht, c1, hcl, win_one, Option.bind_some, List.replicate, List.set, hins, t0, t2, b0, b2, Nat.zero_add, g0, g2, s0, s2, wx, wy]
  rw [e1]
  simp only [win_all, hlast, i_listed_eq, Option.bind_some]
  cases isTerms (L ++ (x + 1) :: 1 :: (y + 1) :: R) <;> simp
theorem put_s (L R : List Int) (x y : Int) (hx : -30 ≤ x ∧ x ≤ 30) (hy : -30 ≤ y ∧ y ≤ 30) (hl : L.length + R.length ≤ 8) (ht : isTerms (L ++ x :: y :: R) = true) :
    s_PutOne (L ++ x :: y :: R, (L.length : Int) + 1) = some (if isTerms (L ++ (x + 1) :: 1 :: (y + 1) :: R) then (((), true), L ++ (x + 1) :: 1 :: (y + 1) :: R) else (((), false), [])) := by
  have hlen : (L ++ x :: y :: R).length = L.length + R.length + 2 := by simp; omega
  have c1 : inB 1 (((L ++ x :: y :: R).length : Int) - 1) ((L.length : Int) + 1) = true := by rw [inB_iff, hlen]; omega
  have w1 : w64 (((L ++ x :: y :: R).length : Int) - 1) = ((L ++ x :: y :: R).length : Int) - 1 := w64_id (by omega) (by omega)
  have tt : ((L.length : Int) + 1).toNat = L.length + 1 := by omega
  have c0 : (0 : Int) ≤ (L.length : Int) + 1 := by omega
  have wt : win (L ++ x :: y :: R) 0 (L.length + 1) = L ++ [x] := by rw [win_take, at_take1]
  have wd : win (L ++ x :: y :: R) (L.length + 1) ((L ++ x :: y :: R).length - (L.length + 1)) = y :: R := by
    unfold win; rw [at_drop1, hlen]; rw [List.take_of_length_le]; simp; omega
  have ho : s_l1Own (L ++ [x]) = some ((), L ++ [x]) := s_l1Own_eq _ (by simp; omega)
  have hlx : (L ++ [x]).length = L.length + 1 := by simp
  have wl : win (L ++ [x]) 0 (L.length + 1) = L ++ [x] := by have := win_all (L ++ [x]); rwa [hlx] at this
  have wl2 : win (L ++ [x] ++ [1]) 0 (L.length + 1 + 1) = L ++ [x] ++ [1] := by have := win_all (L ++ [x] ++ [(1 : Int)]); rwa [show (L ++ [x] ++ [(1 : Int)]).length = L.length + 1 + 1 by simp] at this
  have ea : L ++ [x] ++ [1] ++ y :: R = L ++ x :: 1 :: y :: R := by simp
  have t0 : Int.toNat (w64 ((L.length : Int) + 1 - 1)) = L.length := by rw [w64_id (by omega) (by omega)]; omega
  have t2 : Int.toNat (w64 ((L.length : Int) + 1 + 1)) = L.length + 2 := by rw [w64_id (by omega) (by omega)]; omega
  have hyR : (y :: R).length = R.length + 1 := rfl
  have b0 : 0 ≤ w64 ((L.length : Int) + 1 - 1) ∧ w64 ((L.length : Int) + 1 - 1) < ((L.length + 1 + 1 + (R.length + 1) : Nat) : Int) := by rw [w64_id (by omega) (by omega)]; omega
  have b2 : 0 ≤ w64 ((L.length : Int) + 1 + 1) ∧ w64 ((L.length : Int) + 1 + 1) < ((L.length + 1 + 1 + (R.length + 1) : Nat) : Int) := by rw [w64_id (by omega) (by omega)]; omega
  have g0 := at_get0 L x (1 :: y :: R)
  have g2 : (L ++ (x + 1) :: 1 :: y :: R)[L.length + 2]? = some y := at_get2 L (x + 1) 1 y R
  have s0 := at_set0 L x (x + 1) (1 :: y :: R)
  have s2 := at_set2 L (x + 1) 1 y (y + 1) R
  have wx : w64 (x + 1) = x + 1 := w64_id (by omega) (by omega)
  have wy : w64 (y + 1) = y + 1 := w64_id (by omega) (by omega)
  have e1 : L.length + 1 + 1 + (R.length + 1) = (L ++ (x + 1) :: 1 :: (y + 1) :: R).length := by simp; omega
  have hlast := s_ctGood_eq (L ++ (x + 1) :: 1 :: (y + 1) :: R) (by simp; omega)
  have d1 : 2 * ((L.length + 1 + 1) * 9) ≤ 140737488355328 := by omega
  have d2 : 2 * ((L.length + 1 + 1 + (R.length + 1)) * 9) ≤ 140737488355328 := by omega
  have d3 : 0 ≤ L.length + 1 ∧ L.length + 1 ≤ (L ++ x :: y :: R).length := by omega
  have d4 : L.length + 1 ≤ (L ++ x :: y :: R).length ∧ (L ++ x :: y :: R).length ≤ (L ++ x :: y :: R).length := by omega
  have d5 : 0 + (L.length + 1 + 1) ≤ (L ++ [x] ++ [(1 : Int)]).length := by simp
  simp only [s_PutOne, s_PutOne_t, T.run, s_ctGood_eq (L ++ x :: y :: R) (by omega), s_l1In_eq, w1, ht, c1, tt, c0, Nat.sub_zero, wt, wd, ho, hlx, wl, win_one, wl2, ea, hyR, Option.bind_some, t0, t2, b0, b2, Nat.zero_add, g0, g2, s0, s2, wx, wy, d1, d2, d3, d4]
  rw [e1]
  simp only [win_all, hlast, Option.bind_some]
  cases isTerms (L ++ (x + 1) :: 1 :: (y + 1) :: R) <;> simp <;> (constructor <;> (rw [w64_id (by omega) (by omega)]; omega))
theorem put_both (l : List Int) (at' : Int) (hl : l.length < 4611686018427387904) : ∃ r : Bool × List Int, r.2.length ≤ 10 ∧ i_PutOne (l, at') = some (((), r.1), r.2) ∧ s_PutOne (l, at') = some (((), r.1), r.2) := by
  cases ht : isTerms l with
  | false =>
    refine ⟨(false, []), by simp, ?_, ?_⟩
    · simp only [i_PutOne, i_PutOne_t, T.run, i_IsTermList_eq l hl, ht, Option.bind_some]; simp
    · simp only [s_PutOne, s_PutOne_t, T.run, s_ctGood_eq l hl, ht, Option.bind_some]; simp
  | true =>
    have ht' := isTerms_iff.1 ht
    have w1 : w64 ((l.length : Int) - 1) = (l.length : Int) - 1 := w64_id (by omega) (by omega)
    cases ha : inB 1 ((l.length : Int) - 1) at' with
    | false =>
      refine ⟨(false, []), by simp, ?_, ?_⟩
      · simp only [i_PutOne, i_PutOne_t, T.run, i_IsTermList_eq l hl, i_within_eq, w1, ht, ha, Option.bind_some]; simp
      · simp only [s_PutOne, s_PutOne_t, T.run, s_ctGood_eq l hl, s_l1In_eq, w1, ht, ha, Option.bind_some]; simp
    | true =>
      rw [inB_iff] at ha
      obtain ⟨k, rfl⟩ : ∃ k : Nat, at' = (k : Int) + 1 := ⟨(at' - 1).toNat, by omega⟩
      obtain ⟨L, x, y, R, rfl, hk⟩ := at_split1 l k (by omega)
      subst hk
      have hx := ht'.2 x (by simp)
      have hy := ht'.2 y (by simp)
      have hlen : (L ++ x :: y :: R).length = L.length + R.length + 2 := by simp; omega
      rw [put_i L R x y (by omega) (by omega) (by omega) ht, put_s L R x y (by omega) (by omega) (by omega) ht]
      cases hr : isTerms (L ++ (x + 1) :: 1 :: (y + 1) :: R) with
      | true => exact ⟨(true, L ++ (x + 1) :: 1 :: (y + 1) :: R), (isTerms_iff.1 hr).1, by simp, by simp⟩
      | false => exact ⟨(false, []), by simp, by simp, by simp⟩


def s_l1Cur_one_sh : FSh := ⟨[(.one (.pf 0 0 0)), (.one (.si .i64))], [(.rcd 0 [(.sl (.int .u8) false true), (.si .i64), (.si .u64)])]⟩

def s_l1Cur_one_fo : List FO := [⟨[(.one .sb)], [(.rcd 0 [(.sl (.int .u8) false true), (.si .i64), (.si .u64)])]⟩]
noncomputable def s_l1Cur_one_t : ((Unit × Int) × (List (Int) × Int × Int)) → T (Bool × (List (Int) × Int × Int)) := fun (((), n), (c_0, c_1, c_2)) =>
  (.sub (s_l1Cur_pick (((), n), (c_0, (c_1, c_2)))) fun z0 =>
  (.ret ((z0.1 == 0), (z0.2.1, (z0.2.2.1, z0.2.2.2)))))
noncomputable def s_l1Cur_one (v : ((Unit × Int) × (List (Int) × Int × Int))) : Option (Bool × (List (Int) × Int × Int)) := (s_l1Cur_one_t v).run
noncomputable def s_l1Cur_one_E : TEnv := (E0.add1 n_s_l1Cur_pick s_l1Cur_pick_sh s_l1Cur_pick_fo s_l1Cur_pick)
theorem s_l1Cur_one_Eok : (s_l1Cur_one_E).OK := (E0ok.add1 s_l1Cur_pick_ok)
noncomputable def s_l1Cur_one_told : Nat → Option SealT := fun id => none
theorem s_l1Cur_one_ok : FOK Try.prog n_s_l1Cur_one s_l1Cur_one_sh s_l1Cur_one_fo s_l1Cur_one :=
  fn_ok (E := s_l1Cur_one_E) (s_l1Cur_one_Eok) (told := s_l1Cur_one_told) (fl := []) (c := bodyOf fn_s_l1Cur_one) (s := s_l1Cur_one_sh) (l := s_l1Cur_one_fo) (tree := s_l1Cur_one_t) fnat_s_l1Cur_one (by kernel_rfl) (by kernel_rfl) (by kernel_rfl) (loopsOK_of (ls := []) (by kernel_rfl) trivial) (fun v => by kernel_rfl)

def s_l1Cur_sureQuiddity_sh : FSh := ⟨[(.one (.pf 0 0 0)), (.one (.si .i64))], [(.rcd 0 [(.sl (.int .u8) false true), (.si .i64), (.si .u64)])]⟩

def s_l1Cur_sureQuiddity_L2_sh : LSh := ⟨(fun ex => match ex with | .norm => [(0, none), (1, none), (5, none)] | .exit i => if i = 0 then [(5, none)] else [] | .ret => [(4, none)]), [(0, (.one (.pf 0 0 0))), (1, (.one (.si .i64))), (5, (.one (.rw 1 0)))], [(.rcd 0 [(.sl (.int .u8) false true), (.si .i64), (.si .u64)]), (.row 0 (.int .i64))], [⟨(.exit 0), [(5, (.one (.rw 1 0)))], [(.rcd 0 [(.sl (.int .u8) false true), (.si .i64), (.si .u64)]), (.row 0 (.int .i64))]⟩], [], []⟩
noncomputable def s_l1Cur_sureQuiddity_L2_step : ((Unit × Int × Unit) × ((List (Int) × Int × Int) × List (Int))) → T (((Unit × Int × Unit) × ((List (Int) × Int × Int) × List (Int))) ⊕ (Unit × ((List (Int) × Int × Int) × List (Int)))) := fun (((), n, ()), ((c_0, c_1, c_2), out)) =>
  (.test (decide (((List.length out) : Int) < n))
  (.sub (s_l1Cur_pick (((), ((List.length out) : Int)), (c_0, (c_1, c_2)))) fun z0 =>
   (.test (decide (0 ≤ (w64 (1 + z0.1))))
   (.test (decide ((0 ≤ (Int.toNat (w64 (1 + z0.1)))) ∧ ((Int.toNat (w64 (1 + z0.1))) ≤ (List.length out))))
    (.test (decide ((0 + ((Int.toNat (w64 (1 + z0.1))) - 0)) ≤ (List.length out)))
     (.sub (s_l1Own (win out 0 ((Int.toNat (w64 (1 + z0.1))) - 0))) fun z1 =>
      (.test true
      (.test (decide ((0 + (List.length z1.2)) ≤ (List.length z1.2)))
       (.test (decide ((2 * (((List.length z1.2) + 1) * 9)) ≤ 140737488355328))
        (.test (decide (0 ≤ (w64 (1 + z0.1))))
         (.test (decide (((Int.toNat (w64 (1 + z0.1))) ≤ (List.length out)) ∧ ((List.length out) ≤ (List.length out))))
          (.test (decide (((0 + (Int.toNat (w64 (1 + z0.1)))) + ((List.length out) - (Int.toNat (w64 (1 + z0.1))))) ≤ (List.length out)))
           (.test (decide ((0 + ((List.length z1.2) + 1)) ≤ (List.length ((win z1.2 0 (List.length z1.2)) ++ (win (List.set (List.replicate 1 (0 : Int)) 0 (1 : Int)) 0 1)))))
            (.test (decide ((2 * ((((List.length z1.2) + 1) + (List.length (win out (0 + (Int.toNat (w64 (1 + z0.1)))) ((List.length out) - (Int.toNat (w64 (1 + z0.1))))))) * 9)) ≤ 140737488355328))
             (.test (decide ((0 ≤ (w64 ((w64 (1 + z0.1)) - 1))) ∧ ((w64 ((w64 (1 + z0.1)) - 1)) < ((((List.length z1.2) + 1) + (List.length (win out (0 + (Int.toNat (w64 (1 + z0.1)))) ((List.length out) - (Int.toNat (w64 (1 + z0.1))))))) : Int))))
              (.sub (((win ((win z1.2 0 (List.length z1.2)) ++ (win (List.set (List.replicate 1 (0 : Int)) 0 (1 : Int)) 0 1)) 0 ((List.length z1.2) + 1)) ++ (win out (0 + (Int.toNat (w64 (1 + z0.1)))) ((List.length out) - (Int.toNat (w64 (1 + z0.1))))))[(0 + (Int.toNat (w64 ((w64 (1 + z0.1)) - 1))))]?) fun z2 =>
               (.test (decide ((0 ≤ (w64 ((w64 (1 + z0.1)) - 1))) ∧ ((w64 ((w64 (1 + z0.1)) - 1)) < ((((List.length z1.2) + 1) + (List.length (win out (0 + (Int.toNat (w64 (1 + z0.1)))) ((List.length out) - (Int.toNat (w64 (1 + z0.1))))))) : Int))))
               (.sub (((win ((win z1.2 0 (List.length z1.2)) ++ (win (List.set (List.replicate 1 (0 : Int)) 0 (1 : Int)) 0 1)) 0 ((List.length z1.2) + 1)) ++ (win out (0 + (Int.toNat (w64 (1 + z0.1)))) ((List.length out) - (Int.toNat (w64 (1 + z0.1))))))[(0 + (Int.toNat (w64 ((w64 (1 + z0.1)) - 1))))]?) fun z3 =>
                (.test (decide (((((List.length z1.2) + 1) + (List.length (win out (0 + (Int.toNat (w64 (1 + z0.1)))) ((List.length out) - (Int.toNat (w64 (1 + z0.1))))))) : Int) ≠ 0))
                (.test (decide ((0 ≤ (Int.tmod (w64 ((w64 (1 + z0.1)) + 1)) ((((List.length z1.2) + 1) + (List.length (win out (0 + (Int.toNat (w64 (1 + z0.1)))) ((List.length out) - (Int.toNat (w64 (1 + z0.1))))))) : Int))) ∧ ((Int.tmod (w64 ((w64 (1 + z0.1)) + 1)) ((((List.length z1.2) + 1) + (List.length (win out (0 + (Int.toNat (w64 (1 + z0.1)))) ((List.length out) - (Int.toNat (w64 (1 + z0.1))))))) : Int)) < ((((List.length z1.2) + 1) + (List.length (win out (0 + (Int.toNat (w64 (1 + z0.1)))) ((List.length out) - (Int.toNat (w64 (1 + z0.1))))))) : Int))))
                 (.sub ((List.set ((win ((win z1.2 0 (List.length z1.2)) ++ (win (List.set (List.replicate 1 (0 : Int)) 0 (1 : Int)) 0 1)) 0 ((List.length z1.2) + 1)) ++ (win out (0 + (Int.toNat (w64 (1 + z0.1)))) ((List.length out) - (Int.toNat (w64 (1 + z0.1)))))) (0 + (Int.toNat (w64 ((w64 (1 + z0.1)) - 1)))) (w64 (z2 + 1)))[(0 + (Int.toNat (Int.tmod (w64 ((w64 (1 + z0.1)) + 1)) ((((List.length z1.2) + 1) + (List.length (win out (0 + (Int.toNat (w64 (1 + z0.1)))) ((List.length out) - (Int.toNat (w64 (1 + z0.1))))))) : Int))))]?) fun z4 =>
                  (.test (decide ((0 ≤ (Int.tmod (w64 ((w64 (1 + z0.1)) + 1)) ((((List.length z1.2) + 1) + (List.length (win out (0 + (Int.toNat (w64 (1 + z0.1)))) ((List.length out) - (Int.toNat (w64 (1 + z0.1))))))) : Int))) ∧ ((Int.tmod (w64 ((w64 (1 + z0.1)) + 1)) ((((List.length z1.2) + 1) + (List.length (win out (0 + (Int.toNat (w64 (1 + z0.1)))) ((List.length out) - (Int.toNat (w64 (1 + z0.1))))))) : Int)) < ((((List.length z1.2) + 1) + (List.length (win out (0 + (Int.toNat (w64 (1 + z0.1)))) ((List.length out) - (Int.toNat (w64 (1 + z0.1))))))) : Int))))
                  (.sub ((List.set ((win ((win z1.2 0 (List.length z1.2)) ++ (win (List.set (List.replicate 1 (0 : Int)) 0 (1 : Int)) 0 1)) 0 ((List.length z1.2) + 1)) ++ (win out (0 + (Int.toNat (w64 (1 + z0.1)))) ((List.length out) - (Int.toNat (w64 (1 + z0.1)))))) (0 + (Int.toNat (w64 ((w64 (1 + z0.1)) - 1)))) (w64 (z2 + 1)))[(0 + (Int.toNat (Int.tmod (w64 ((w64 (1 + z0.1)) + 1)) ((((List.length z1.2) + 1) + (List.length (win out (0 + (Int.toNat (w64 (1 + z0.1)))) ((List.length out) - (Int.toNat (w64 (1 + z0.1))))))) : Int))))]?) fun z5 =>
                   (.test (decide ((0 = 0) ∧ ((((List.length z1.2) + 1) + (List.length (win out (0 + (Int.toNat (w64 (1 + z0.1)))) ((List.length out) - (Int.toNat (w64 (1 + z0.1))))))) = (List.length (List.set (List.set ((win ((win z1.2 0 (List.length z1.2)) ++ (win (List.set (List.replicate 1 (0 : Int)) 0 (1 : Int)) 0 1)) 0 ((List.length z1.2) + 1)) ++ (win out (0 + (Int.toNat (w64 (1 + z0.1)))) ((List.length out) - (Int.toNat (w64 (1 + z0.1)))))) (0 + (Int.toNat (w64 ((w64 (1 + z0.1)) - 1)))) (w64 (z2 + 1))) (0 + (Int.toNat (Int.tmod (w64 ((w64 (1 + z0.1)) + 1)) ((((List.length z1.2) + 1) + (List.length (win out (0 + (Int.toNat (w64 (1 + z0.1)))) ((List.length out) - (Int.toNat (w64 (1 + z0.1))))))) : Int)))) (w64 (z4 + 1)))))))
                   (.ret (Sum.inl (((), (n, ())), ((z0.2.1, (z0.2.2.1, z0.2.2.2)), (List.set (List.set ((win ((win z1.2 0 (List.length z1.2)) ++ (win (List.set (List.replicate 1 (0 : Int)) 0 (1 : Int)) 0 1)) 0 ((List.length z1.2) + 1)) ++ (win out (0 + (Int.toNat (w64 (1 + z0.1)))) ((List.length out) - (Int.toNat (w64 (1 + z0.1)))))) (0 + (Int.toNat (w64 ((w64 (1 + z0.1)) - 1)))) (w64 (z2 + 1))) (0 + (Int.toNat (Int.tmod (w64 ((w64 (1 + z0.1)) + 1)) ((((List.length z1.2) + 1) + (List.length (win out (0 + (Int.toNat (w64 (1 + z0.1)))) ((List.length out) - (Int.toNat (w64 (1 + z0.1))))))) : Int)))) (w64 (z4 + 1)))))))
                   .fail))
                  .fail))
                 .fail)
                .fail))
               .fail))
              .fail)
             .fail)
            .fail)
           .fail)
          .fail)
         .fail)
        .fail)
       .fail)
      .fail))
     .fail)
    .fail)
   .fail))
  (.test (decide ((0 = 0) ∧ ((List.length out) = (List.length out))))
   (.ret (Sum.inr ((), ((c_0, (c_1, c_2)), out))))
   .fail))
noncomputable def s_l1Cur_sureQuiddity_L2 (v : ((Unit × Int × Unit) × ((List (Int) × Int × Int) × List (Int)))) : Option (Unit × ((List (Int) × Int × Int) × List (Int))) := loopO (fun v => (s_l1Cur_sureQuiddity_L2_step v).run) v

def s_l1Cur_sureQuiddity_fo : List FO := [⟨[(.one (.rw 1 0))], [(.rcd 0 [(.sl (.int .u8) false true), (.si .i64), (.si .u64)]), (.row 0 (.int .i64))]⟩]
noncomputable def s_l1Cur_sureQuiddity_t : ((Unit × Int) × (List (Int) × Int × Int)) → T (Unit × ((List (Int) × Int × Int) × List (Int))) := fun (((), n), (c_0, c_1, c_2)) =>
  (.test (decide ((0 = 0) ∧ (3 = (List.length (List.set (List.set (List.set (List.replicate 3 (0 : Int)) 0 (1 : Int)) 1 (1 : Int)) 2 (1 : Int))))))
  (.sub (s_l1Cur_sureQuiddity_L2 (((), (n, ())), ((c_0, (c_1, c_2)), (List.set (List.set (List.set (List.replicate 3 (0 : Int)) 0 (1 : Int)) 1 (1 : Int)) 2 (1 : Int))))) fun z0 =>
   (.test (decide ((0 = 0) ∧ ((List.length z0.2.2) = (List.length z0.2.2))))
   (.ret ((), ((z0.2.1.1, (z0.2.1.2.1, z0.2.1.2.2)), z0.2.2)))
   .fail))
  .fail)
noncomputable def s_l1Cur_sureQuiddity (v : ((Unit × Int) × (List (Int) × Int × Int))) : Option (Unit × ((List (Int) × Int × Int) × List (Int))) := (s_l1Cur_sureQuiddity_t v).run
noncomputable def s_l1Cur_sureQuiddity_E : TEnv := ((E0.add1 n_s_l1Cur_pick s_l1Cur_pick_sh s_l1Cur_pick_fo s_l1Cur_pick).add1 n_s_l1Own s_l1Own_sh s_l1Own_fo s_l1Own)
theorem s_l1Cur_sureQuiddity_Eok : (s_l1Cur_sureQuiddity_E).OK := ((E0ok.add1 s_l1Cur_pick_ok).add1 s_l1Own_ok)
noncomputable def s_l1Cur_sureQuiddity_told : Nat → Option SealT := fun id => if id = 2 then some (LSh.told s_l1Cur_sureQuiddity_L2_sh 1 (s_l1Cur_sureQuiddity_L2_step)) else none
theorem s_l1Cur_sureQuiddity_L2_ok : ToldOK Try.prog 1 (loopAt (bodyOf fn_s_l1Cur_sureQuiddity) [0]) (LSh.told s_l1Cur_sureQuiddity_L2_sh 1 (s_l1Cur_sureQuiddity_L2_step)) :=
  loop_ok (E := s_l1Cur_sureQuiddity_E) (s_l1Cur_sureQuiddity_Eok) (told := s_l1Cur_sureQuiddity_told) (l := s_l1Cur_sureQuiddity_L2_sh) (step := s_l1Cur_sureQuiddity_L2_step) (loopsOK_of (ls := []) (by kernel_rfl) trivial) (by kernel_rfl) (fun v => by kernel_rfl)
theorem s_l1Cur_sureQuiddity_ok : FOK Try.prog n_s_l1Cur_sureQuiddity s_l1Cur_sureQuiddity_sh s_l1Cur_sureQuiddity_fo s_l1Cur_sureQuiddity :=
  fn_ok (E := s_l1Cur_sureQuiddity_E) (s_l1Cur_sureQuiddity_Eok) (told := s_l1Cur_sureQuiddity_told) (fl := []) (c := bodyOf fn_s_l1Cur_sureQuiddity) (s := s_l1Cur_sureQuiddity_sh) (l := s_l1Cur_sureQuiddity_fo) (tree := s_l1Cur_sureQuiddity_t) fnat_s_l1Cur_sureQuiddity (by kernel_rfl) (by kernel_rfl) (by kernel_rfl) (loopsOK_of (ls := [loopAt (bodyOf fn_s_l1Cur_sureQuiddity) [0]]) (by kernel_rfl) ⟨.inr ⟨_, by kernel_rfl, s_l1Cur_sureQuiddity_L2_ok⟩, trivial⟩) (fun v => by kernel_rfl)

end Go.Proofs.W
