/- Functions of the program, walked, and what they compute. -/
import Derived.Test.YtaoeghfoifhhcaaDoorMxIds
set_option linter.unusedVariables false
set_option linter.unusedSimpArgs false
set_option maxRecDepth 100000
set_option maxHeartbeats 4000000
namespace Go.Proofs.W
open Go Go.Gm Go.Proofs
open Go.RowKit Go.Shelf
def iot (k : Int) (n : Nat) : List Int := (List.range n).map fun (i : Nat) => k + (i : Int)
theorem iot_len (k : Int) (n : Nat) : (iot k n).length = n := by simp [iot]
theorem iot_succ (k : Int) (n : Nat) : iot k (n + 1) = iot k n ++ [k + n] := by simp [iot, List.range_succ]
theorem iot_get (k : Int) {n i : Nat} (h : i < n) : (iot k n)[i]? = some (k + i) := by simp [iot, h]
theorem gcd_toNat_step {a b : Int} (ha : 0 ≤ a) (hb : 0 < b) : Nat.gcd b.toNat (Int.tmod a b).toNat = Nat.gcd a.toNat b.toNat ∧ 0 ≤ Int.tmod a b ∧ Int.tmod a b < b := by
  obtain ⟨m, rfl⟩ := Int.eq_ofNat_of_zero_le ha
  obtain ⟨n, rfl⟩ := Int.eq_ofNat_of_zero_le (Int.le_of_lt hb)
  have e : Int.tmod (m : Int) (n : Int) = ((m % n : Nat) : Int) := rfl
  rw [e]
  simp only [Int.toNat_natCast]
  refine ⟨?_, Int.natCast_nonneg _, ?_⟩
  · rw [Nat.gcd_comm m n, Nat.gcd_rec n m, Nat.gcd_comm]
  · have : n ≠ 0 := by omega
    exact Int.ofNat_lt.2 (Nat.mod_lt m (by omega))
def lowP (num den : Int) : Bool := inB 1 1000000 num && (inB 1 1000000 den && decide (Nat.gcd num.toNat den.toNat = 1))
def upQ (num den : Int) : Int := (num + den - 1) / den
theorem upQ_B {num den : Int} (hn : 1 ≤ num) (hd : 1 ≤ den) : 1 ≤ upQ num den ∧ upQ num den ≤ num ∧ num ≤ upQ num den * den ∧ upQ num den * den - num < den := by
  have h1 := Int.mul_ediv_add_emod (num + den - 1) den
  have h2 := Int.emod_nonneg (num + den - 1) (show den ≠ 0 by omega)
  have h3 := Int.emod_lt_of_pos (num + den - 1) (show 0 < den by omega)
  have h4 : 1 ≤ upQ num den := by
    unfold upQ
    exact (Int.le_ediv_iff_mul_le (by omega)).2 (by omega)
  have h5 : den * upQ num den = upQ num den * den := Int.mul_comm ..
  have h6 : upQ num den ≤ num := by
    unfold upQ
    refine Int.ediv_le_of_le_mul (by omega) ?_
    have : 0 ≤ (num - 1) * (den - 1) := Int.mul_nonneg (by omega) (by omega)
    rw [Int.sub_mul, Int.mul_sub] at this
    omega
  unfold upQ at *
  omega
def posT (l : List Int) : Bool := isTerms l && (decide (l ≠ []) && l.all (inB 1 30))
theorem isPz_len {l : List Int} (h : isPz l = true) : 3 ≤ l.length ∧ l.length ≤ 9 := by
  simp only [isPz, Bool.and_eq_true, inB_iff] at h
  omega
def fillG (l : List Int) (at' n : Int) : Bool × List Int := if isPz l && (inB 0 ((l.length : Int) - 1) at' && (inB 1 ((l.length : Int) - 2) n && decide (l[at'.toNat]? = some 0))) then (true, l.set at'.toNat n) else (false, [])
def openG (l : List Int) (at' : Int) : Bool × List Int := if isPz l && (inB 0 ((l.length : Int) - 1) at' && decide (l[at'.toNat]? ≠ some 0)) then (true, l.set at'.toNat 0) else (false, [])
theorem at_get0 {α : Type} (L : List α) (x : α) (t : List α) : (L ++ x :: t)[L.length]? = some x := by simp
theorem at_get1 {α : Type} (L : List α) (x y : α) (t : List α) : (L ++ x :: y :: t)[L.length + 1]? = some y := by
  rw [List.getElem?_append_right (by omega), show L.length + 1 - L.length = 1 by omega]; rfl
theorem at_get2 {α : Type} (L : List α) (x y z : α) (t : List α) : (L ++ x :: y :: z :: t)[L.length + 2]? = some z := by
  rw [List.getElem?_append_right (by omega), show L.length + 2 - L.length = 2 by omega]; rfl
theorem at_set0 {α : Type} (L : List α) (x v : α) (t : List α) : (L ++ x :: t).set L.length v = L ++ v :: t := by simp
theorem at_set1 {α : Type} (L : List α) (x y v : α) (t : List α) : (L ++ x :: y :: t).set (L.length + 1) v = L ++ x :: v :: t := by
  rw [List.set_append_right _ _ (by omega), show L.length + 1 - L.length = 1 by omega]; rfl
theorem at_set2 {α : Type} (L : List α) (x y z v : α) (t : List α) : (L ++ x :: y :: z :: t).set (L.length + 2) v = L ++ x :: y :: v :: t := by
  rw [List.set_append_right _ _ (by omega), show L.length + 2 - L.length = 2 by omega]; rfl
theorem at_take1 {α : Type} (L : List α) (x : α) (t : List α) : (L ++ x :: t).take (L.length + 1) = L ++ [x] := by
  rw [List.take_append, List.take_of_length_le (by omega), show L.length + 1 - L.length = 1 by omega]; rfl
theorem at_drop2 {α : Type} (L : List α) (x y : α) (t : List α) : (L ++ x :: y :: t).drop (L.length + 2) = t := by
  rw [List.drop_append, List.drop_of_length_le (by omega), show L.length + 2 - L.length = 2 by omega]; rfl
theorem at_split {α : Type} (l : List α) (k : Nat) (h : k + 2 < l.length) : ∃ L x m y R, l = L ++ x :: m :: y :: R ∧ L.length = k := by
  refine ⟨l.take k, l[k], l[k + 1], l[k + 2], l.drop (k + 3), ?_, by simp; omega⟩
  rw [← List.drop_eq_getElem_cons, ← List.drop_eq_getElem_cons, ← List.drop_eq_getElem_cons, List.take_append_drop]
theorem at_split1 {α : Type} (l : List α) (k : Nat) (h : k + 1 < l.length) : ∃ L x y R, l = L ++ x :: y :: R ∧ L.length = k := by
  refine ⟨l.take k, l[k], l[k + 1], l.drop (k + 2), ?_, by simp; omega⟩
  rw [← List.drop_eq_getElem_cons, ← List.drop_eq_getElem_cons, List.take_append_drop]
theorem at_drop1 {α : Type} (L : List α) (x : α) (t : List α) : (L ++ x :: t).drop (L.length + 1) = t := by
  rw [List.drop_append, List.drop_of_length_le (by omega), show L.length + 1 - L.length = 1 by omega]; rfl
theorem loop_listI {α β σ X : Type} {step : α → Option (α ⊕ β)} {xs : List X} (P : Nat → σ → Prop) (emb : Nat → σ → α) (body : σ → X → σ ⊕ β) (fin : σ → β)
    (hs : ∀ k s x, P k s → xs[k]? = some x → step (emb k s) = some (match body s x with | .inl s' => .inl (emb (k + 1) s') | .inr o => .inr o) ∧ ∀ s', body s x = .inl s' → P (k + 1) s')
    (he : ∀ s, P xs.length s → step (emb xs.length s) = some (.inr (fin s))) : ∀ k s, k ≤ xs.length → P k s → loopO step (emb k s) = some (forE body fin (xs.drop k) s) := by
  have key : ∀ n k s, n = xs.length - k → k ≤ xs.length → P k s → loopO step (emb k s) = some (forE body fin (xs.drop k) s) := by
    intro n
    induction n with
    | zero =>
      intro k s hn hk hP
      have : k = xs.length := by omega
      subst this
      rw [loopO_step, he _ hP, List.drop_length]
      rfl
    | succ n ih =>
      intro k s hn hk hP
      have hlt : k < xs.length := by omega
      obtain ⟨h1, h2⟩ := hs k s xs[k] hP (List.getElem?_eq_getElem hlt)
      rw [loopO_step, h1, List.drop_eq_getElem_cons hlt, forE_cons]
      cases hb : body s xs[k] with
      | inl s' => simp only []; exact ih (k + 1) s' (by omega) (by omega) (h2 s' hb)
      | inr o => rfl
  exact fun k s hk hP => key _ k s rfl hk hP
def pzCell (b : UInt8) : Option Int := if b.toNat = 46 then some 0 else if 49 ≤ b.toNat ∧ b.toNat ≤ 57 then some ((b.toNat : Int) - 48) else none
def pzRead : List UInt8 → Option (List Int)
  | [] => some []
  | b :: t => match pzCell b with
    | some z => (pzRead t).map (z :: ·)
    | none => none
theorem forE_pz {β : Type} (fin : List Int → β) (o : β) : ∀ (l : List UInt8) (acc : List Int), forE (fun acc b => match pzCell b with | some z => .inl (acc ++ [z]) | none => .inr o) fin l acc = match pzRead l with | some r => fin (acc ++ r) | none => o
  | [], acc => by simp [forE, pzRead]
  | b :: t, acc => by
    rw [forE_cons, pzRead]
    cases hc : pzCell b with
    | none => rfl
    | some z =>
      simp only []
      rw [forE_pz fin o t]
      cases pzRead t with
      | none => rfl
      | some r => simp
def pzRes (s : List UInt8) : Bool × List Int := if s.length > 9 then (false, []) else match pzRead s with
  | none => (false, [])
  | some r => if isPz r then (true, r) else (false, [])
theorem pzRead_len : ∀ {s : List UInt8} {r : List Int}, pzRead s = some r → r.length = s.length
  | [], r, h => by cases h; rfl
  | b :: t, r, h => by
    rw [pzRead] at h
    split at h
    · obtain ⟨r', h1, rfl⟩ := Option.map_eq_some_iff.1 h
      simp [pzRead_len h1]
    · cases h
theorem pzRes_len (s : List UInt8) : (pzRes s).2.length ≤ 9 := by
  unfold pzRes
  split
  · simp
  · split
    · simp
    · rename_i h
      have := pzRead_len h
      split
      · simp; omega
      · simp
theorem bytesI_get {s : List UInt8} {k : Nat} {b : UInt8} (h : s[k]? = some b) : (bytesI s)[k]? = some (b.toNat : Int) := by unfold bytesI; rw [List.getElem?_map, h]; rfl
theorem bytesI_len (s : List UInt8) : (bytesI s).length = s.length := by unfold bytesI; simp
def fits (p q : List Int) : Bool := decide (p.length = q.length) && !(p.zip q).any fun x => !(x.1 == 0 || x.1 == x.2)
def turnG (l : List Int) (k : Int) : Bool × List Int := if isPz l && inB 0 ((l.length : Int) - 1) k then (true, l.drop k.toNat ++ l.take k.toNat) else (false, [])
theorem turn_facts {l : List Int} {k : Int} (hp : isPz l = true) (hk : inB 0 ((l.length : Int) - 1) k = true) : win l k.toNat (l.length - k.toNat) = l.drop k.toNat ∧ win l 0 (k.toNat - 0) = l.take k.toNat ∧ 0 ≤ k ∧ k.toNat ≤ l.length ∧ l.length ≤ 9 := by
  have := isPz_len hp
  rw [inB_iff] at hk
  refine ⟨?_, win_take _ _, hk.1, by omega, this.2⟩
  unfold win
  rw [List.take_of_length_le (by rw [List.length_drop]; omega)]
def iotD (k : Int) (n : Nat) : List (Int × Int) := (List.range n).map fun (i : Nat) => (k + 2 * (i : Int), k + 2 * (i : Int) + 1)
theorem iotD_len (k : Int) (n : Nat) : (iotD k n).length = n := by simp [iotD]
theorem iotD_succ (k : Int) (n : Nat) : iotD k (n + 1) = iotD k n ++ [(k + 2 * (n : Int), k + 2 * (n : Int) + 1)] := by simp [iotD, List.range_succ]
theorem iotD_get (k : Int) {n i : Nat} (h : i < n) : (iotD k n)[i]? = some (k + 2 * (i : Int), k + 2 * (i : Int) + 1) := by simp [iotD, h]
theorem zip_any_neD : ∀ (a b : List (Int × Int)), a.length = b.length → ((a.zip b).any fun p => !(decide (p.1 = p.2))) = !decide (a = b)
  | [], [], _ => rfl
  | x :: a, y :: b, h => by
    have ih := zip_any_neD a b (by simpa using h)
    rw [List.zip_cons_cons, List.any_cons, ih]
    by_cases hx : x = y <;> simp [hx]

def l_big_sh : FSh := ⟨[(.one (.sl (.int .u8) false false)), (.one (.sl (.int .u8) false false))], []⟩

def l_big_fo : List FO := [⟨[(.one .sb)], []⟩]
noncomputable def l_big_t : (List (Int) × List (Int)) → T Bool := fun (code, more) =>
  (.test (decide (((List.length code) : Int) > 1048576))
  (.ret true)
  (.ret (decide (((List.length more) : Int) > (w64 (1048576 - ((List.length code) : Int)))))))
noncomputable def l_big (v : (List (Int) × List (Int))) : Option Bool := (l_big_t v).run
noncomputable def l_big_E : TEnv := E0
theorem l_big_Eok : (l_big_E).OK := E0ok
noncomputable def l_big_told : Nat → Option SealT := fun id => none
theorem l_big_ok : FOK Tryd.prog n_l_big l_big_sh l_big_fo l_big :=
  fn_ok (E := l_big_E) (l_big_Eok) (told := l_big_told) (fl := []) (c := bodyOf fn_l_big) (s := l_big_sh) (l := l_big_fo) (tree := l_big_t) fnat_l_big (by kernel_rfl) (by kernel_rfl) (by kernel_rfl) (loopsOK_of (ls := []) (by kernel_rfl) trivial) (fun v => by kernel_rfl)

def s_l1Cur_next_sh : FSh := ⟨[(.one (.pf 0 0 0))], [(.rcd 0 [(.sl (.int .u8) false true), (.si .i64), (.si .u64)])]⟩

def s_l1Cur_next_fo : List FO := [⟨[(.one (.si .i64))], [(.rcd 0 [(.sl (.int .u8) false true), (.si .i64), (.si .u64)])]⟩]
noncomputable def s_l1Cur_next_t : (Unit × (List (Int) × Int × Int)) → T (Int × (List (Int) × Int × Int)) := fun ((), (c_0, c_1, c_2)) =>
  (.test (decide (c_1 < ((List.length c_0) : Int)))
  (.test (decide ((0 ≤ c_1) ∧ (c_1 < ((List.length c_0) : Int))))
   (.sub (c_0[(Int.toNat c_1)]?) fun z0 =>
    (.test (decide ((w64 (c_1 + 1)) ≤ ((List.length c_0) : Int)))
    (.ret ((w64 z0), (c_0, ((w64 (c_1 + 1)), (wu64 ((wu64 ((wu64 (c_2 * 6364136223846793005)) + (wu64 (w64 z0)))) + 1442695040888963407))))))
    (.ret ((w64 (wu64 (((Int.toNat ((Int.rec
  (fun a =>
    (fun a =>
        Nat.casesOn a ((fun x => 0) (2 ^ min (Int.toNat 40) IntKind.u64.bits)) fun n =>
          Int.casesOn (2 ^ min (Int.toNat 40) IntKind.u64.bits) (fun a => (fun m n => Int.ofNat (m / n)) n.succ a)
            fun a => (fun m n => Int.negSucc (m / n.succ)) n a)
      a)
  (fun a =>
    (fun a =>
        Int.casesOn (2 ^ min (Int.toNat 40) IntKind.u64.bits)
          (fun a_1 => Nat.casesOn a_1 ((fun a => 0) a) fun n => (fun m n => Int.negSucc (m / n.succ)) a n) fun a_1 =>
          (fun m n => Int.ofNat (m.succ / n.succ)) a a_1)
      a)
  (IntKind.u64.wrap
    (IntKind.u64.wrap
        (IntKind.u64.wrap (c_2 * Int.ofNat 6364136223846793005) + IntKind.u64.wrap (IntKind.i64.wrap z0)) +
      Int.ofNat 1442695040888963407))) % 18446744073709551616)) &&& 255 : Nat) : Int))), (c_0, ((w64 (c_1 + 1)), (wu64 ((wu64 ((wu64 (c_2 * 6364136223846793005)) + (wu64 (w64 z0)))) + 1442695040888963407))))))))
   .fail)
  (.test (decide ((w64 (c_1 + 1)) ≤ ((List.length c_0) : Int)))
   (.ret ((0 : Int), (c_0, ((w64 (c_1 + 1)), (wu64 ((wu64 ((wu64 (c_2 * 6364136223846793005)) + 0)) + 1442695040888963407))))))
   (.ret ((w64 (wu64 (((Int.toNat ((Int.rec
  (fun a =>
    (fun a =>
        Nat.casesOn a ((fun x => 0) (2 ^ min (Int.toNat 40) IntKind.u64.bits)) fun n =>
          Int.casesOn (2 ^ min (Int.toNat 40) IntKind.u64.bits) (fun a => (fun m n => Int.ofNat (m / n)) n.succ a)
            fun a => (fun m n => Int.negSucc (m / n.succ)) n a)
      a)
  (fun a =>
    (fun a =>
        Int.casesOn (2 ^ min (Int.toNat 40) IntKind.u64.bits)
          (fun a_1 => Nat.casesOn a_1 ((fun a => 0) a) fun n => (fun m n => Int.negSucc (m / n.succ)) a n) fun a_1 =>
          (fun m n => Int.ofNat (m.succ / n.succ)) a a_1)
      a)
  (IntKind.u64.wrap
    (IntKind.u64.wrap (IntKind.u64.wrap (c_2 * Int.ofNat 6364136223846793005) + Int.ofNat 0) +
      Int.ofNat 1442695040888963407))) % 18446744073709551616)) &&& 255 : Nat) : Int))), (c_0, ((w64 (c_1 + 1)), (wu64 ((wu64 ((wu64 (c_2 * 6364136223846793005)) + 0)) + 1442695040888963407))))))))
noncomputable def s_l1Cur_next (v : (Unit × (List (Int) × Int × Int))) : Option (Int × (List (Int) × Int × Int)) := (s_l1Cur_next_t v).run
noncomputable def s_l1Cur_next_E : TEnv := E0
theorem s_l1Cur_next_Eok : (s_l1Cur_next_E).OK := E0ok
noncomputable def s_l1Cur_next_told : Nat → Option SealT := fun id => none
theorem s_l1Cur_next_ok : FOK Tryd.prog n_s_l1Cur_next s_l1Cur_next_sh s_l1Cur_next_fo s_l1Cur_next :=
  fn_ok (E := s_l1Cur_next_E) (s_l1Cur_next_Eok) (told := s_l1Cur_next_told) (fl := []) (c := bodyOf fn_s_l1Cur_next) (s := s_l1Cur_next_sh) (l := s_l1Cur_next_fo) (tree := s_l1Cur_next_t) fnat_s_l1Cur_next (by kernel_rfl) (by kernel_rfl) (by kernel_rfl) (loopsOK_of (ls := []) (by kernel_rfl) trivial) (fun v => by kernel_rfl)

def s_l1Cur_pick_sh : FSh := ⟨[(.one (.pf 0 0 0)), (.one (.si .i64))], [(.rcd 0 [(.sl (.int .u8) false true), (.si .i64), (.si .u64)])]⟩

def s_l1Cur_pick_fo : List FO := [⟨[(.one (.si .i64))], [(.rcd 0 [(.sl (.int .u8) false true), (.si .i64), (.si .u64)])]⟩]
noncomputable def s_l1Cur_pick_t : ((Unit × Int) × (List (Int) × Int × Int)) → T (Int × (List (Int) × Int × Int)) := fun (((), n), (c_0, c_1, c_2)) =>
  (.test (decide (n ≤ 1))
  (.ret ((0 : Int), (c_0, (c_1, c_2))))
  (.sub (s_l1Cur_next ((), (c_0, (c_1, c_2)))) fun z0 =>
   (.test (decide (n > 200))
   (.sub (s_l1Cur_next ((), (z0.2.1, (z0.2.2.1, z0.2.2.2)))) fun z1 =>
    (.test (decide (n ≠ 0))
    (.ret ((Int.tmod (w64 ((w64 (z0.1 * 256)) + z1.1)) n), (z1.2.1, (z1.2.2.1, z1.2.2.2))))
    .fail))
   (.test (decide (n ≠ 0))
    (.ret ((Int.tmod z0.1 n), (z0.2.1, (z0.2.2.1, z0.2.2.2))))
    .fail))))
noncomputable def s_l1Cur_pick (v : ((Unit × Int) × (List (Int) × Int × Int))) : Option (Int × (List (Int) × Int × Int)) := (s_l1Cur_pick_t v).run
noncomputable def s_l1Cur_pick_E : TEnv := (E0.add1 n_s_l1Cur_next s_l1Cur_next_sh s_l1Cur_next_fo s_l1Cur_next)
theorem s_l1Cur_pick_Eok : (s_l1Cur_pick_E).OK := (E0ok.add1 s_l1Cur_next_ok)
noncomputable def s_l1Cur_pick_told : Nat → Option SealT := fun id => none
theorem s_l1Cur_pick_ok : FOK Tryd.prog n_s_l1Cur_pick s_l1Cur_pick_sh s_l1Cur_pick_fo s_l1Cur_pick :=
  fn_ok (E := s_l1Cur_pick_E) (s_l1Cur_pick_Eok) (told := s_l1Cur_pick_told) (fl := []) (c := bodyOf fn_s_l1Cur_pick) (s := s_l1Cur_pick_sh) (l := s_l1Cur_pick_fo) (tree := s_l1Cur_pick_t) fnat_s_l1Cur_pick (by kernel_rfl) (by kernel_rfl) (by kernel_rfl) (loopsOK_of (ls := []) (by kernel_rfl) trivial) (fun v => by kernel_rfl)

def s_l1Cur_among_sh : FSh := ⟨[(.one (.pf 0 0 0)), (.one (.sl (.int .i64) false false))], [(.rcd 0 [(.sl (.int .u8) false true), (.si .i64), (.si .u64)])]⟩

def s_l1Cur_among_fo : List FO := [⟨[(.one (.si .i64))], [(.rcd 0 [(.sl (.int .u8) false true), (.si .i64), (.si .u64)])]⟩]
noncomputable def s_l1Cur_among_t : ((Unit × List (Int)) × (List (Int) × Int × Int)) → T (Int × (List (Int) × Int × Int)) := fun (((), list), (c_0, c_1, c_2)) =>
  (.sub (s_l1Cur_pick (((), ((List.length list) : Int)), (c_0, (c_1, c_2)))) fun z0 =>
  (.test (decide ((0 ≤ z0.1) ∧ (z0.1 < ((List.length list) : Int))))
  (.sub (list[(Int.toNat z0.1)]?) fun z1 =>
   (.ret (z1, (z0.2.1, (z0.2.2.1, z0.2.2.2)))))
  .fail))
noncomputable def s_l1Cur_among (v : ((Unit × List (Int)) × (List (Int) × Int × Int))) : Option (Int × (List (Int) × Int × Int)) := (s_l1Cur_among_t v).run
noncomputable def s_l1Cur_among_E : TEnv := (E0.add1 n_s_l1Cur_pick s_l1Cur_pick_sh s_l1Cur_pick_fo s_l1Cur_pick)
theorem s_l1Cur_among_Eok : (s_l1Cur_among_E).OK := (E0ok.add1 s_l1Cur_pick_ok)
noncomputable def s_l1Cur_among_told : Nat → Option SealT := fun id => none
theorem s_l1Cur_among_ok : FOK Tryd.prog n_s_l1Cur_among s_l1Cur_among_sh s_l1Cur_among_fo s_l1Cur_among :=
  fn_ok (E := s_l1Cur_among_E) (s_l1Cur_among_Eok) (told := s_l1Cur_among_told) (fl := []) (c := bodyOf fn_s_l1Cur_among) (s := s_l1Cur_among_sh) (l := s_l1Cur_among_fo) (tree := s_l1Cur_among_t) fnat_s_l1Cur_among (by kernel_rfl) (by kernel_rfl) (by kernel_rfl) (loopsOK_of (ls := []) (by kernel_rfl) trivial) (fun v => by kernel_rfl)

def s_l1Cur_one_sh : FSh := ⟨[(.one (.pf 0 0 0)), (.one (.si .i64))], [(.rcd 0 [(.sl (.int .u8) false true), (.si .i64), (.si .u64)])]⟩

def s_l1Cur_one_fo : List FO := [⟨[(.one .sb)], [(.rcd 0 [(.sl (.int .u8) false true), (.si .i64), (.si .u64)])]⟩]
noncomputable def s_l1Cur_one_t : ((Unit × Int) × (List (Int) × Int × Int)) → T (Bool × (List (Int) × Int × Int)) := fun (((), n), (c_0, c_1, c_2)) =>
  (.sub (s_l1Cur_pick (((), n), (c_0, (c_1, c_2)))) fun z0 =>
  (.ret ((z0.1 == 0), (z0.2.1, (z0.2.2.1, z0.2.2.2)))))
noncomputable def s_l1Cur_one (v : ((Unit × Int) × (List (Int) × Int × Int))) : Option (Bool × (List (Int) × Int × Int)) := (s_l1Cur_one_t v).run
noncomputable def s_l1Cur_one_E : TEnv := (E0.add1 n_s_l1Cur_pick s_l1Cur_pick_sh s_l1Cur_pick_fo s_l1Cur_pick)
theorem s_l1Cur_one_Eok : (s_l1Cur_one_E).OK := (E0ok.add1 s_l1Cur_pick_ok)
noncomputable def s_l1Cur_one_told : Nat → Option SealT := fun id => none
theorem s_l1Cur_one_ok : FOK Tryd.prog n_s_l1Cur_one s_l1Cur_one_sh s_l1Cur_one_fo s_l1Cur_one :=
  fn_ok (E := s_l1Cur_one_E) (s_l1Cur_one_Eok) (told := s_l1Cur_one_told) (fl := []) (c := bodyOf fn_s_l1Cur_one) (s := s_l1Cur_one_sh) (l := s_l1Cur_one_fo) (tree := s_l1Cur_one_t) fnat_s_l1Cur_one (by kernel_rfl) (by kernel_rfl) (by kernel_rfl) (loopsOK_of (ls := []) (by kernel_rfl) trivial) (fun v => by kernel_rfl)


/-- The cursor over drawn bytes. -/
def curOK (k : Int) (c : List Int × Int × Int) : Prop := (∀ x ∈ c.1, 0 ≤ x ∧ x ≤ 255) ∧ 0 ≤ c.2.1 ∧ c.2.1 ≤ k
theorem curOK.mono {k m : Int} {c : List Int × Int × Int} (h : curOK k c) (hk : k ≤ m) : curOK m c := ⟨h.1, h.2.1, Int.le_trans h.2.2 hk⟩
theorem wu64_id {z : Int} (h1 : 0 ≤ z) (h2 : z ≤ 18446744073709551615) : wu64 z = z := by
  simp [wu64, IntKind.wrap, IntKind.bits, IntKind.signed]; omega
theorem mask_ok (n : Nat) : 0 ≤ w64 (wu64 ((n &&& 255 : Nat) : Int)) ∧ w64 (wu64 ((n &&& 255 : Nat) : Int)) ≤ 255 := by
  have h : n &&& 255 ≤ 255 := Nat.and_le_right
  generalize n &&& 255 = m at h
  rw [wu64_id (by omega) (by omega), w64_id (by omega) (by omega)]
  omega
theorem next_ok {k : Int} {c : List Int × Int × Int} (h : curOK k c) (hk : k < 1000000000000000) : ∃ v c', s_l1Cur_next ((), c) = some (v, c') ∧ (0 ≤ v ∧ v ≤ 255) ∧ curOK (k + 1) c' := by
  obtain ⟨c0, c1, c2⟩ := c
  obtain ⟨h1, h2, h3⟩ := h
  simp only at h1 h2 h3
  have w1 : w64 (c1 + 1) = c1 + 1 := w64_id (by omega) (by omega)
  rw [s_l1Cur_next, s_l1Cur_next_t]
  by_cases a : c1 < (c0.length : Int)
  · have hlt : c1.toNat < c0.length := by omega
    have hx := h1 c0[c1.toNat] (List.getElem_mem hlt)
    rw [T.run_test, if_pos (decide_eq_true a), T.run_test, if_pos (decide_eq_true (by omega)), T.run_sub, List.getElem?_eq_getElem hlt, Option.bind_some, T.run_test, if_pos (decide_eq_true (by rw [w1]; omega)), T.run_ret, w1]
    have w2 : w64 c0[c1.toNat] = c0[c1.toNat] := w64_id (by omega) (by omega)
    refine ⟨_, _, rfl, by rw [w2]; exact hx, h1, ?_, ?_⟩
    · show 0 ≤ c1 + 1; omega
    · show c1 + 1 ≤ k + 1; omega
  · rw [T.run_test, if_neg (by rw [decide_eq_true_eq]; exact a), T.run_test, if_neg (by rw [decide_eq_true_eq, w1]; omega), T.run_ret, w1]
    refine ⟨_, _, rfl, mask_ok _, h1, ?_, ?_⟩
    · show 0 ≤ c1 + 1; omega
    · show c1 + 1 ≤ k + 1; omega
theorem pick_ok {k : Int} {c : List Int × Int × Int} (n : Int) (h : curOK k c) (hk : k < 100000000000000) : ∃ v c', s_l1Cur_pick (((), n), c) = some (v, c') ∧ 0 ≤ v ∧ (1 ≤ n → v < n) ∧ (n ≤ 1 → v = 0) ∧ curOK (k + 2) c' := by
  obtain ⟨c0, c1, c2⟩ := c
  rw [s_l1Cur_pick, s_l1Cur_pick_t]
  by_cases a : n ≤ 1
  · rw [T.run_test, if_pos (decide_eq_true a), T.run_ret]
    exact ⟨0, _, rfl, Int.le_refl _, fun h => by omega, fun _ => rfl, h.mono (by omega)⟩
  · obtain ⟨v, ⟨d0, d1, d2⟩, e, hv, hc⟩ := next_ok h (by omega)
    rw [T.run_test, if_neg (by rw [decide_eq_true_eq]; exact a), T.run_sub, e, Option.bind_some, T.run_test]
    by_cases b : n > 200
    · obtain ⟨u, ⟨f0, f1, f2⟩, e2, hu, hc2⟩ := next_ok hc (by omega)
      rw [if_pos (decide_eq_true b), T.run_sub, e2, Option.bind_some, T.run_test, if_pos (decide_eq_true (by omega)), T.run_ret]
      have w : w64 (w64 (v * 256) + u) = v * 256 + u := by rw [w64_id (z := v * 256) (by omega) (by omega), w64_id (by omega) (by omega)]
      refine ⟨_, _, rfl, ?_, fun _ => ?_, fun h => absurd h a, hc2.mono (by omega)⟩
      · rw [w]; exact Int.tmod_nonneg _ (by omega)
      · rw [w]; exact Int.tmod_lt_of_pos _ (by omega)
    · rw [if_neg (by rw [decide_eq_true_eq]; exact b), T.run_test, if_pos (decide_eq_true (by omega)), T.run_ret]
      exact ⟨_, _, rfl, Int.tmod_nonneg _ (by omega), fun _ => Int.tmod_lt_of_pos _ (by omega), fun h => absurd h a, hc.mono (by omega)⟩
theorem among_ok {k : Int} {c : List Int × Int × Int} (l : List Int) (h : curOK k c) (hk : k < 100000000000000) (hl : 1 ≤ l.length) : ∃ v c', s_l1Cur_among (((), l), c) = some (v, c') ∧ v ∈ l ∧ curOK (k + 2) c' := by
  obtain ⟨c0, c1, c2⟩ := c
  obtain ⟨v, ⟨d0, d1, d2⟩, e, h0, h1, _, hc⟩ := pick_ok (l.length : Int) h hk
  have h1 := h1 (by omega)
  have hlt : v.toNat < l.length := by omega
  rw [s_l1Cur_among, s_l1Cur_among_t, T.run_sub, e, Option.bind_some, T.run_test, if_pos (decide_eq_true (by omega)), T.run_sub, List.getElem?_eq_getElem hlt, Option.bind_some, T.run_ret]
  exact ⟨_, _, rfl, List.getElem_mem hlt, hc⟩
theorem one_ok {k : Int} {c : List Int × Int × Int} (n : Int) (h : curOK k c) (hk : k < 100000000000000) : ∃ v c', s_l1Cur_one (((), n), c) = some (v, c') ∧ curOK (k + 2) c' := by
  obtain ⟨c0, c1, c2⟩ := c
  obtain ⟨v, ⟨d0, d1, d2⟩, e, _, _, _, hc⟩ := pick_ok n h hk
  rw [s_l1Cur_one, s_l1Cur_one_t, T.run_sub, e, Option.bind_some, T.run_ret]
  exact ⟨_, _, rfl, hc⟩
def bytesOK (code : List Int) : Prop := ∀ x ∈ code, 0 ≤ x ∧ x ≤ 255
theorem cur0 {code : List Int} (h : bytesOK code) : curOK 0 (code, ((0 : Int), (0 : Int))) := ⟨h, Int.le_refl _, Int.le_refl _⟩


def s_l1Cur_of_sh : FSh := ⟨[(.one (.pf 0 0 0)), (.one (.sl .str false false))], [(.rcd 0 [(.sl (.int .u8) false true), (.si .i64), (.si .u64)])]⟩

def s_l1Cur_of_fo : List FO := [⟨[(.one .ss)], [(.rcd 0 [(.sl (.int .u8) false true), (.si .i64), (.si .u64)])]⟩]
noncomputable def s_l1Cur_of_t : ((Unit × List (List UInt8)) × (List (Int) × Int × Int)) → T (List UInt8 × (List (Int) × Int × Int)) := fun (((), list), (c_0, c_1, c_2)) =>
  (.sub (s_l1Cur_pick (((), ((List.length list) : Int)), (c_0, (c_1, c_2)))) fun z0 =>
  (.test (decide ((0 ≤ z0.1) ∧ (z0.1 < ((List.length list) : Int))))
  (.sub (list[(Int.toNat z0.1)]?) fun z1 =>
   (.ret (z1, (z0.2.1, (z0.2.2.1, z0.2.2.2)))))
  .fail))
noncomputable def s_l1Cur_of (v : ((Unit × List (List UInt8)) × (List (Int) × Int × Int))) : Option (List UInt8 × (List (Int) × Int × Int)) := (s_l1Cur_of_t v).run
noncomputable def s_l1Cur_of_E : TEnv := (E0.add1 n_s_l1Cur_pick s_l1Cur_pick_sh s_l1Cur_pick_fo s_l1Cur_pick)
theorem s_l1Cur_of_Eok : (s_l1Cur_of_E).OK := (E0ok.add1 s_l1Cur_pick_ok)
noncomputable def s_l1Cur_of_told : Nat → Option SealT := fun id => none
theorem s_l1Cur_of_ok : FOK Tryd.prog n_s_l1Cur_of s_l1Cur_of_sh s_l1Cur_of_fo s_l1Cur_of :=
  fn_ok (E := s_l1Cur_of_E) (s_l1Cur_of_Eok) (told := s_l1Cur_of_told) (fl := []) (c := bodyOf fn_s_l1Cur_of) (s := s_l1Cur_of_sh) (l := s_l1Cur_of_fo) (tree := s_l1Cur_of_t) fnat_s_l1Cur_of (by kernel_rfl) (by kernel_rfl) (by kernel_rfl) (loopsOK_of (ls := []) (by kernel_rfl) trivial) (fun v => by kernel_rfl)

theorem of_ok {k : Int} {c : List Int × Int × Int} (l : List (List UInt8)) (h : curOK k c) (hk : k < 100000000000000) (hl : 1 ≤ l.length) : ∃ v c', s_l1Cur_of (((), l), c) = some (v, c') ∧ v ∈ l ∧ curOK (k + 2) c' := by
  obtain ⟨c0, c1, c2⟩ := c
  obtain ⟨v, ⟨d0, d1, d2⟩, e, h0, h1, _, hc⟩ := pick_ok (l.length : Int) h hk
  have h1 := h1 (by omega)
  have hlt : v.toNat < l.length := by omega
  rw [s_l1Cur_of, s_l1Cur_of_t, T.run_sub, e, Option.bind_some, T.run_test, if_pos (decide_eq_true (by omega)), T.run_sub, List.getElem?_eq_getElem hlt, Option.bind_some, T.run_ret]
  exact ⟨_, _, rfl, List.getElem_mem hlt, hc⟩



theorem win_ln {α : Type} (xs : List α) (o n : Nat) (h : o + n ≤ xs.length) : (win xs o n).length = n := by unfold win; rw [List.length_take, List.length_drop]; omega


def s_l1Cur_spoilt_sh : FSh := ⟨[(.one (.pf 0 0 0)), (.one .ss), (.one .ss)], [(.rcd 0 [(.sl (.int .u8) false true), (.si .i64), (.si .u64)])]⟩

def s_l1Cur_spoilt_L2_sh : LSh := ⟨(fun ex => match ex with | .norm => [(0, none), (1, none), (2, none), (7, none)] | .exit i => if i = 0 then [(1, none)] else [] | .ret => [(6, none)]), [(0, (.one (.pf 0 0 0))), (1, (.one .ss)), (2, (.one .ss)), (7, (.one (.si .i64)))], [(.rcd 0 [(.sl (.int .u8) false true), (.si .i64), (.si .u64)])], [⟨(.exit 0), [(1, (.one .ss))], [(.rcd 0 [(.sl (.int .u8) false true), (.si .i64), (.si .u64)])]⟩], [], []⟩
noncomputable def s_l1Cur_spoilt_L2_step : ((Unit × List UInt8 × List UInt8 × Int) × (List (Int) × Int × Int)) → T (((Unit × List UInt8 × List UInt8 × Int) × (List (Int) × Int × Int)) ⊕ (List UInt8 × (List (Int) × Int × Int))) := fun (((), t, with', n), (c_0, c_1, c_2)) =>
  (.test (decide (n > 0))
  (.test (decide (((List.length t) : Int) > 0))
   (.sub (s_l1Cur_pick (((), ((List.length t) : Int)), (c_0, (c_1, c_2)))) fun z0 =>
    (.sub (s_l1Cur_pick (((), ((List.length with') : Int)), (z0.2.1, (z0.2.2.1, z0.2.2.2)))) fun z1 =>
    (.test (decide ((0 ≤ z1.1) ∧ (z1.1 < ((List.length with') : Int))))
    (.sub (with'[(Int.toNat z1.1)]?) fun z2 =>
     (.test (decide (1 ≤ (List.length (List.set (List.replicate 1 (0 : Int)) 0 ((UInt8.toNat z2) : Int)))))
     (.sub (s_l1Cur_pick (((), (3 : Int)), (z1.2.1, (z1.2.2.1, z1.2.2.2)))) fun z3 =>
      (.test (z3.1 == 0)
      (.test (decide (0 ≤ z0.1))
       (.test (decide ((0 ≤ (Int.toNat z0.1)) ∧ ((Int.toNat z0.1) ≤ (List.length t))))
        (.test (decide (((List.length (win t 0 ((Int.toNat z0.1) - 0))) + (List.length (List.map (fun z => UInt8.ofNat z.toNat) (win (List.set (List.replicate 1 (0 : Int)) 0 ((UInt8.toNat z2) : Int)) 0 1)))) ≤ 140737488355328))
         (.test (decide (0 ≤ z0.1))
          (.test (decide (((Int.toNat z0.1) ≤ (List.length t)) ∧ ((List.length t) ≤ (List.length t))))
           (.test (decide (((List.length ((win t 0 ((Int.toNat z0.1) - 0)) ++ (List.map (fun z => UInt8.ofNat z.toNat) (win (List.set (List.replicate 1 (0 : Int)) 0 ((UInt8.toNat z2) : Int)) 0 1)))) + (List.length (win t (Int.toNat z0.1) ((List.length t) - (Int.toNat z0.1))))) ≤ 140737488355328))
            (.ret (Sum.inl (((), ((((win t 0 ((Int.toNat z0.1) - 0)) ++ (List.map (fun z => UInt8.ofNat z.toNat) (win (List.set (List.replicate 1 (0 : Int)) 0 ((UInt8.toNat z2) : Int)) 0 1))) ++ (win t (Int.toNat z0.1) ((List.length t) - (Int.toNat z0.1)))), (with', (w64 (n - 1))))), (z3.2.1, (z3.2.2.1, z3.2.2.2)))))
            .fail)
           .fail)
          .fail)
         .fail)
        .fail)
       .fail)
      (.test (z3.1 == 1)
       (.test (decide (0 ≤ z0.1))
        (.test (decide ((0 ≤ (Int.toNat z0.1)) ∧ ((Int.toNat z0.1) ≤ (List.length t))))
         (.test (decide (((List.length (win t 0 ((Int.toNat z0.1) - 0))) + (List.length (List.map (fun z => UInt8.ofNat z.toNat) (win (List.set (List.replicate 1 (0 : Int)) 0 ((UInt8.toNat z2) : Int)) 0 1)))) ≤ 140737488355328))
          (.test (decide (0 ≤ (w64 (z0.1 + 1))))
           (.test (decide (((Int.toNat (w64 (z0.1 + 1))) ≤ (List.length t)) ∧ ((List.length t) ≤ (List.length t))))
            (.test (decide (((List.length ((win t 0 ((Int.toNat z0.1) - 0)) ++ (List.map (fun z => UInt8.ofNat z.toNat) (win (List.set (List.replicate 1 (0 : Int)) 0 ((UInt8.toNat z2) : Int)) 0 1)))) + (List.length (win t (Int.toNat (w64 (z0.1 + 1))) ((List.length t) - (Int.toNat (w64 (z0.1 + 1))))))) ≤ 140737488355328))
             (.ret (Sum.inl (((), ((((win t 0 ((Int.toNat z0.1) - 0)) ++ (List.map (fun z => UInt8.ofNat z.toNat) (win (List.set (List.replicate 1 (0 : Int)) 0 ((UInt8.toNat z2) : Int)) 0 1))) ++ (win t (Int.toNat (w64 (z0.1 + 1))) ((List.length t) - (Int.toNat (w64 (z0.1 + 1)))))), (with', (w64 (n - 1))))), (z3.2.1, (z3.2.2.1, z3.2.2.2)))))
             .fail)
            .fail)
           .fail)
          .fail)
         .fail)
        .fail)
       (.test (decide (0 ≤ z0.1))
        (.test (decide ((0 ≤ (Int.toNat z0.1)) ∧ ((Int.toNat z0.1) ≤ (List.length t))))
         (.test (decide (0 ≤ (w64 (z0.1 + 1))))
          (.test (decide (((Int.toNat (w64 (z0.1 + 1))) ≤ (List.length t)) ∧ ((List.length t) ≤ (List.length t))))
           (.test (decide (((List.length (win t 0 ((Int.toNat z0.1) - 0))) + (List.length (win t (Int.toNat (w64 (z0.1 + 1))) ((List.length t) - (Int.toNat (w64 (z0.1 + 1))))))) ≤ 140737488355328))
            (.ret (Sum.inl (((), (((win t 0 ((Int.toNat z0.1) - 0)) ++ (win t (Int.toNat (w64 (z0.1 + 1))) ((List.length t) - (Int.toNat (w64 (z0.1 + 1)))))), (with', (w64 (n - 1))))), (z3.2.1, (z3.2.2.1, z3.2.2.2)))))
            .fail)
           .fail)
          .fail)
         .fail)
        .fail))))
     .fail))
    .fail)))
   (.ret (Sum.inr (t, (c_0, (c_1, c_2))))))
  (.ret (Sum.inr (t, (c_0, (c_1, c_2))))))
noncomputable def s_l1Cur_spoilt_L2 (v : ((Unit × List UInt8 × List UInt8 × Int) × (List (Int) × Int × Int))) : Option (List UInt8 × (List (Int) × Int × Int)) := loopO (fun v => (s_l1Cur_spoilt_L2_step v).run) v

def s_l1Cur_spoilt_fo : List FO := [⟨[(.one .ss)], [(.rcd 0 [(.sl (.int .u8) false true), (.si .i64), (.si .u64)])]⟩]
noncomputable def s_l1Cur_spoilt_t : ((Unit × List UInt8 × List UInt8) × (List (Int) × Int × Int)) → T (List UInt8 × (List (Int) × Int × Int)) := fun (((), t, with'), (c_0, c_1, c_2)) =>
  (.sub (s_l1Cur_pick (((), (2 : Int)), (c_0, (c_1, c_2)))) fun z0 =>
  (.sub (s_l1Cur_spoilt_L2 (((), (t, (with', (w64 (1 + z0.1))))), (z0.2.1, (z0.2.2.1, z0.2.2.2)))) fun z1 =>
  (.ret (z1.1, (z1.2.1, (z1.2.2.1, z1.2.2.2))))))
noncomputable def s_l1Cur_spoilt (v : ((Unit × List UInt8 × List UInt8) × (List (Int) × Int × Int))) : Option (List UInt8 × (List (Int) × Int × Int)) := (s_l1Cur_spoilt_t v).run
noncomputable def s_l1Cur_spoilt_E : TEnv := (E0.add1 n_s_l1Cur_pick s_l1Cur_pick_sh s_l1Cur_pick_fo s_l1Cur_pick)
theorem s_l1Cur_spoilt_Eok : (s_l1Cur_spoilt_E).OK := (E0ok.add1 s_l1Cur_pick_ok)
noncomputable def s_l1Cur_spoilt_told : Nat → Option SealT := fun id => if id = 2 then some (LSh.told s_l1Cur_spoilt_L2_sh 1 (s_l1Cur_spoilt_L2_step)) else none
theorem s_l1Cur_spoilt_L2_ok : ToldOK Tryd.prog 1 (loopAt (bodyOf fn_s_l1Cur_spoilt) [0]) (LSh.told s_l1Cur_spoilt_L2_sh 1 (s_l1Cur_spoilt_L2_step)) :=
  loop_ok (E := s_l1Cur_spoilt_E) (s_l1Cur_spoilt_Eok) (told := s_l1Cur_spoilt_told) (l := s_l1Cur_spoilt_L2_sh) (step := s_l1Cur_spoilt_L2_step) (loopsOK_of (ls := []) (by kernel_rfl) trivial) (by kernel_rfl) (fun v => by kernel_rfl)
theorem s_l1Cur_spoilt_ok : FOK Tryd.prog n_s_l1Cur_spoilt s_l1Cur_spoilt_sh s_l1Cur_spoilt_fo s_l1Cur_spoilt :=
  fn_ok (E := s_l1Cur_spoilt_E) (s_l1Cur_spoilt_Eok) (told := s_l1Cur_spoilt_told) (fl := []) (c := bodyOf fn_s_l1Cur_spoilt) (s := s_l1Cur_spoilt_sh) (l := s_l1Cur_spoilt_fo) (tree := s_l1Cur_spoilt_t) fnat_s_l1Cur_spoilt (by kernel_rfl) (by kernel_rfl) (by kernel_rfl) (loopsOK_of (ls := [loopAt (bodyOf fn_s_l1Cur_spoilt) [0]]) (by kernel_rfl) ⟨.inr ⟨_, by kernel_rfl, s_l1Cur_spoilt_L2_ok⟩, trivial⟩) (fun v => by kernel_rfl)

theorem spoilt_L2_ok (w : List UInt8) (hw : 1 ≤ w.length) (hw2 : w.length ≤ 100) : ∀ (m : Nat) (K : Int) (c : List Int × Int × Int) (t : List UInt8), curOK K c → K + 6 * (m : Int) < 1000000000000 → t.length + m ≤ 1000 →
    ∃ t' c', s_l1Cur_spoilt_L2 (((), (t, (w, (m : Int)))), c) = some (t', c') ∧ t'.length ≤ t.length + m ∧ curOK (K + 6 * (m : Int)) c' := by
  intro m
  induction m with
  | zero =>
    intro K c t hc hK ht
    obtain ⟨c0, c1, c2⟩ := c
    refine ⟨t, (c0, c1, c2), ?_, by omega, hc.mono (by omega)⟩
    simp only [s_l1Cur_spoilt_L2]
    refine loopO_done ?_
    rw [s_l1Cur_spoilt_L2_step, T.run_test, if_neg (by rw [decide_eq_true_eq]; omega), T.run_ret]
  | succ m ih =>
    intro K c t hc hK ht
    obtain ⟨c0, c1, c2⟩ := c
    by_cases h0 : t.length = 0
    · refine ⟨t, (c0, c1, c2), ?_, by omega, hc.mono (by omega)⟩
      simp only [s_l1Cur_spoilt_L2]
      refine loopO_done ?_
      rw [s_l1Cur_spoilt_L2_step, T.run_test, if_pos (decide_eq_true (by omega)), T.run_test, if_neg (by rw [decide_eq_true_eq]; omega), T.run_ret]
    · obtain ⟨i, ⟨d0, d1, d2⟩, e1, i0, i1, _, hc1⟩ := pick_ok (t.length : Int) hc (by omega)
      have i1 := i1 (by omega)
      obtain ⟨j, ⟨f0, f1, f2⟩, e2, j0, j1, _, hc2⟩ := pick_ok (w.length : Int) hc1 (by omega)
      have j1 := j1 (by omega)
      obtain ⟨u, ⟨g0, g1, g2⟩, e3, _, _, _, hc3⟩ := pick_ok 3 hc2 (by omega)
      have hj : j.toNat < w.length := by omega
      have wi : w64 (i + 1) = i + 1 := w64_id (by omega) (by omega)
      have wm : w64 (((m + 1 : Nat) : Int) - 1) = (m : Int) := by rw [w64_id (by omega) (by omega)]; omega
      have hone : (List.map (fun z : Int => UInt8.ofNat z.toNat) (win (List.set (List.replicate 1 (0 : Int)) 0 ((UInt8.toNat w[j.toNat]) : Int)) 0 1)).length = 1 := rfl
      have l1 : (win t 0 (i.toNat - 0)).length = i.toNat := by rw [Nat.sub_zero]; exact win_ln t 0 _ (by omega)
      have l2 : (win t i.toNat (t.length - i.toNat)).length = t.length - i.toNat := win_ln t _ _ (by omega)
      have l3 : (win t (i + 1).toNat (t.length - (i + 1).toNat)).length = t.length - (i + 1).toNat := win_ln t _ _ (by omega)
      have st : ∃ t2, (s_l1Cur_spoilt_L2_step (((), (t, (w, ((m + 1 : Nat) : Int)))), (c0, c1, c2))).run = some (.inl (((), (t2, (w, (m : Int)))), (g0, g1, g2))) ∧ t2.length ≤ t.length + 1 := by
        rw [s_l1Cur_spoilt_L2_step, T.run_test, if_pos (decide_eq_true (by omega)), T.run_test, if_pos (decide_eq_true (by omega)), T.run_sub, e1, Option.bind_some, T.run_sub, e2, Option.bind_some, T.run_test, if_pos (decide_eq_true (by omega)), T.run_sub, List.getElem?_eq_getElem hj, Option.bind_some, T.run_test, if_pos (by simp), T.run_sub, e3, Option.bind_some, T.run_test]
        by_cases u0 : (u == 0) = true
        · rw [if_pos u0, T.run_test, if_pos (decide_eq_true i0), T.run_test, if_pos (decide_eq_true (by omega)), T.run_test, if_pos (decide_eq_true (by rw [l1, hone]; omega)), T.run_test, if_pos (decide_eq_true i0), T.run_test, if_pos (decide_eq_true (by omega)), T.run_test, if_pos (decide_eq_true (by rw [List.length_append, l1, hone, l2]; omega)), T.run_ret, wm]
          exact ⟨_, rfl, by rw [List.length_append, List.length_append, l1, hone, l2]; omega⟩
        rw [if_neg u0, T.run_test]
        by_cases u1 : (u == 1) = true
        · rw [if_pos u1, T.run_test, if_pos (decide_eq_true i0), T.run_test, if_pos (decide_eq_true (by omega)), T.run_test, if_pos (decide_eq_true (by rw [l1, hone]; omega)), wi, T.run_test, if_pos (decide_eq_true (by omega)), T.run_test, if_pos (decide_eq_true (by omega)), T.run_test, if_pos (decide_eq_true (by rw [List.length_append, l1, hone, l3]; omega)), T.run_ret, wm]
          exact ⟨_, rfl, by rw [List.length_append, List.length_append, l1, hone, l3]; omega⟩
        rw [if_neg u1, T.run_test, if_pos (decide_eq_true i0), T.run_test, if_pos (decide_eq_true (by omega)), wi, T.run_test, if_pos (decide_eq_true (by omega)), T.run_test, if_pos (decide_eq_true (by omega)), T.run_test, if_pos (decide_eq_true (by rw [l1, l3]; omega)), T.run_ret, wm]
        exact ⟨_, rfl, by rw [List.length_append, l1, l3]; omega⟩
      obtain ⟨t2, e, h2⟩ := st
      obtain ⟨t3, c3, e4, h3, hc4⟩ := ih (K + 6) (g0, g1, g2) t2 (hc3.mono (by omega)) (by omega) (by omega)
      refine ⟨t3, c3, ?_, by omega, hc4.mono (by omega)⟩
      simp only [s_l1Cur_spoilt_L2] at e4 ⊢
      rw [← e4]
      exact loopO_next e
theorem spoilt_ok {K : Int} {c : List Int × Int × Int} (t w : List UInt8) (h : curOK K c) (hK : K < 100000000000) (ht : t.length ≤ 500) (hw : 1 ≤ w.length) (hw2 : w.length ≤ 100) :
    ∃ t' c', s_l1Cur_spoilt (((), (t, w)), c) = some (t', c') ∧ t'.length ≤ t.length + 2 ∧ curOK (K + 14) c' := by
  obtain ⟨c0, c1, c2⟩ := c
  obtain ⟨v, ⟨d0, d1, d2⟩, e, h0, h1, _, hc⟩ := pick_ok 2 h (by omega)
  have h1 := h1 (by omega)
  obtain ⟨n, hn⟩ : ∃ n : Nat, 1 + v = (n : Int) := ⟨(1 + v).toNat, by omega⟩
  have wv : w64 (1 + v) = (n : Int) := by rw [w64_id (by omega) (by omega)]; exact hn
  obtain ⟨t2, ⟨f0, f1, f2⟩, e2, h2, hc2⟩ := spoilt_L2_ok w hw hw2 n _ _ t hc (by omega) (by omega)
  rw [s_l1Cur_spoilt, s_l1Cur_spoilt_t, T.run_sub, e, Option.bind_some, T.run_sub, wv, e2, Option.bind_some, T.run_ret]
  exact ⟨_, _, rfl, by simp only; omega, hc2.mono (by omega)⟩


def s_l1Cur_word_sh : FSh := ⟨[(.one (.pf 0 0 0))], [(.rcd 0 [(.sl (.int .u8) false true), (.si .i64), (.si .u64)])]⟩

def s_l1Cur_word_L3_sh : LSh := ⟨(fun ex => match ex with | .norm => [(0, none), (3, none), (4, none)] | .exit i => if i = 0 then [(0, none), (3, none)] else [] | .ret => [(2, none)]), [(0, (.one (.pf 0 0 0))), (3, (.one .ss)), (4, (.one (.si .i64)))], [(.rcd 0 [(.sl (.int .u8) false true), (.si .i64), (.si .u64)])], [⟨(.exit 0), [(0, (.one (.pf 0 0 0))), (3, (.one .ss))], [(.rcd 0 [(.sl (.int .u8) false true), (.si .i64), (.si .u64)])]⟩], [], []⟩
noncomputable def s_l1Cur_word_L3_step : ((Unit × List UInt8 × Int) × (List (Int) × Int × Int)) → T (((Unit × List UInt8 × Int) × (List (Int) × Int × Int)) ⊕ ((Unit × List UInt8) × (List (Int) × Int × Int))) := fun (((), out, k), (c_0, c_1, c_2)) =>
  (.test (decide (k > 0))
  (.test true
   (.sub (s_l1Cur_of (((), (win (List.set (List.set (List.replicate 2 ([] : List (UInt8))) 0 [(108 : UInt8)]) 1 [(114 : UInt8)]) 0 2)), (c_0, (c_1, c_2)))) fun z0 =>
    (.test (decide (((List.length out) + (List.length z0.1)) ≤ 140737488355328))
    (.ret (Sum.inl (((), ((out ++ z0.1), (w64 (k - 1)))), (z0.2.1, (z0.2.2.1, z0.2.2.2)))))
    .fail))
   .fail)
  (.ret (Sum.inr (((), out), (c_0, (c_1, c_2))))))
noncomputable def s_l1Cur_word_L3 (v : ((Unit × List UInt8 × Int) × (List (Int) × Int × Int))) : Option ((Unit × List UInt8) × (List (Int) × Int × Int)) := loopO (fun v => (s_l1Cur_word_L3_step v).run) v

def s_l1Cur_word_L10_sh : LSh := ⟨(fun ex => match ex with | .norm => [(0, none), (3, none)] | .exit i => if i = 3 then [(3, none)] else if i = 2 then [(3, none)] else [] | .ret => [(2, none)]), [(0, (.one (.pf 0 0 0))), (3, (.one .ss))], [(.rcd 0 [(.sl (.int .u8) false true), (.si .i64), (.si .u64)])], [⟨(.exit 3), [(3, (.one .ss))], [(.rcd 0 [(.sl (.int .u8) false true), (.si .i64), (.si .u64)])]⟩], [], []⟩
noncomputable def s_l1Cur_word_L10_step : ((Unit × List UInt8) × (List (Int) × Int × Int)) → T (((Unit × List UInt8) × (List (Int) × Int × Int)) ⊕ (List UInt8 × (List (Int) × Int × Int))) := fun (((), out), (c_0, c_1, c_2)) =>
  (.sub (s_l1Cur_pick (((), (2 : Int)), (c_0, (c_1, c_2)))) fun z0 =>
  (.test (decide (((List.length out) : Int) < (w64 (40 + z0.1))))
  (.test true
   (.sub (s_l1Cur_of (((), (win (List.set (List.set (List.set (List.replicate 3 ([] : List (UInt8))) 0 [(108 : UInt8)]) 1 [(114 : UInt8)]) 2 [(108 : UInt8), (114 : UInt8)]) 0 3)), (z0.2.1, (z0.2.2.1, z0.2.2.2)))) fun z1 =>
    (.test (decide (((List.length out) + (List.length z1.1)) ≤ 140737488355328))
    (.ret (Sum.inl (((), (out ++ z1.1)), (z1.2.1, (z1.2.2.1, z1.2.2.2)))))
    .fail))
   .fail)
  (.ret (Sum.inr (out, (z0.2.1, (z0.2.2.1, z0.2.2.2)))))))
noncomputable def s_l1Cur_word_L10 (v : ((Unit × List UInt8) × (List (Int) × Int × Int))) : Option (List UInt8 × (List (Int) × Int × Int)) := loopO (fun v => (s_l1Cur_word_L10_step v).run) v

def s_l1Cur_word_fo : List FO := [⟨[(.one .ss)], [(.rcd 0 [(.sl (.int .u8) false true), (.si .i64), (.si .u64)])]⟩]
noncomputable def s_l1Cur_word_t : (Unit × (List (Int) × Int × Int)) → T (List UInt8 × (List (Int) × Int × Int)) := fun ((), (c_0, c_1, c_2)) =>
  (.sub (s_l1Cur_pick (((), (12 : Int)), (c_0, (c_1, c_2)))) fun z0 =>
  (.sub (s_l1Cur_word_L3 (((), (([] : List (UInt8)), z0.1)), (z0.2.1, (z0.2.2.1, z0.2.2.2)))) fun z1 =>
  (.sub (s_l1Cur_pick (((), (14 : Int)), (z1.2.1, (z1.2.2.1, z1.2.2.2)))) fun z2 =>
  (.test (z2.1 == 0)
  (.sub (s_l1Cur_spoilt (((), (z1.1.2, [(108 : UInt8), (114 : UInt8), (120 : UInt8)])), (z2.2.1, (z2.2.2.1, z2.2.2.2)))) fun z3 =>
   (.ret (z3.1, (z3.2.1, (z3.2.2.1, z3.2.2.2)))))
  (.test (z2.1 == 1)
   (.sub (s_l1Cur_word_L10 (((), z1.1.2), (z2.2.1, (z2.2.2.1, z2.2.2.2)))) fun z4 =>
    (.ret (z4.1, (z4.2.1, (z4.2.2.1, z4.2.2.2)))))
   (.ret (z1.1.2, (z2.2.1, (z2.2.2.1, z2.2.2.2)))))))))
noncomputable def s_l1Cur_word (v : (Unit × (List (Int) × Int × Int))) : Option (List UInt8 × (List (Int) × Int × Int)) := (s_l1Cur_word_t v).run
noncomputable def s_l1Cur_word_E : TEnv := (((E0.add1 n_s_l1Cur_pick s_l1Cur_pick_sh s_l1Cur_pick_fo s_l1Cur_pick).add1 n_s_l1Cur_of s_l1Cur_of_sh s_l1Cur_of_fo s_l1Cur_of).add1 n_s_l1Cur_spoilt s_l1Cur_spoilt_sh s_l1Cur_spoilt_fo s_l1Cur_spoilt)
theorem s_l1Cur_word_Eok : (s_l1Cur_word_E).OK := (((E0ok.add1 s_l1Cur_pick_ok).add1 s_l1Cur_of_ok).add1 s_l1Cur_spoilt_ok)
noncomputable def s_l1Cur_word_told : Nat → Option SealT := fun id => if id = 3 then some (LSh.told s_l1Cur_word_L3_sh 1 (s_l1Cur_word_L3_step)) else if id = 10 then some (LSh.told s_l1Cur_word_L10_sh 1 (s_l1Cur_word_L10_step)) else none
theorem s_l1Cur_word_L3_ok : ToldOK Tryd.prog 1 (loopAt (bodyOf fn_s_l1Cur_word) [0]) (LSh.told s_l1Cur_word_L3_sh 1 (s_l1Cur_word_L3_step)) :=
  loop_ok (E := s_l1Cur_word_E) (s_l1Cur_word_Eok) (told := s_l1Cur_word_told) (l := s_l1Cur_word_L3_sh) (step := s_l1Cur_word_L3_step) (loopsOK_of (ls := []) (by kernel_rfl) trivial) (by kernel_rfl) (fun v => by kernel_rfl)
theorem s_l1Cur_word_L10_ok : ToldOK Tryd.prog 1 (loopAt (bodyOf fn_s_l1Cur_word) [1]) (LSh.told s_l1Cur_word_L10_sh 1 (s_l1Cur_word_L10_step)) :=
  loop_ok (E := s_l1Cur_word_E) (s_l1Cur_word_Eok) (told := s_l1Cur_word_told) (l := s_l1Cur_word_L10_sh) (step := s_l1Cur_word_L10_step) (loopsOK_of (ls := []) (by kernel_rfl) trivial) (by kernel_rfl) (fun v => by kernel_rfl)
theorem s_l1Cur_word_ok : FOK Tryd.prog n_s_l1Cur_word s_l1Cur_word_sh s_l1Cur_word_fo s_l1Cur_word :=
  fn_ok (E := s_l1Cur_word_E) (s_l1Cur_word_Eok) (told := s_l1Cur_word_told) (fl := []) (c := bodyOf fn_s_l1Cur_word) (s := s_l1Cur_word_sh) (l := s_l1Cur_word_fo) (tree := s_l1Cur_word_t) fnat_s_l1Cur_word (by kernel_rfl) (by kernel_rfl) (by kernel_rfl) (loopsOK_of (ls := [loopAt (bodyOf fn_s_l1Cur_word) [0], loopAt (bodyOf fn_s_l1Cur_word) [1]]) (by kernel_rfl) ⟨.inr ⟨_, by kernel_rfl, s_l1Cur_word_L3_ok⟩, ⟨.inr ⟨_, by kernel_rfl, s_l1Cur_word_L10_ok⟩, trivial⟩⟩) (fun v => by kernel_rfl)

theorem word_L3_ok : ∀ (m : Nat) (K : Int) (c : List Int × Int × Int) (out : List UInt8), curOK K c → K + 2 * (m : Int) < 1000000000000 → out.length + m ≤ 1000 →
    ∃ out' c', s_l1Cur_word_L3 (((), (out, (m : Int))), c) = some (((), out'), c') ∧ out'.length ≤ out.length + m ∧ curOK (K + 2 * (m : Int)) c' := by
  intro m
  induction m with
  | zero =>
    intro K c out hc hK ho
    obtain ⟨c0, c1, c2⟩ := c
    refine ⟨out, (c0, c1, c2), ?_, by omega, hc.mono (by omega)⟩
    simp only [s_l1Cur_word_L3]
    refine loopO_done ?_
    rw [s_l1Cur_word_L3_step, T.run_test, if_neg (by rw [decide_eq_true_eq]; omega), T.run_ret]
  | succ m ih =>
    intro K c out hc hK ho
    obtain ⟨c0, c1, c2⟩ := c
    have hw : (win (List.set (List.set (List.replicate 2 ([] : List (UInt8))) 0 [(108 : UInt8)]) 1 [(114 : UInt8)]) 0 2) = [[108], [114]] := rfl
    obtain ⟨x, ⟨d0, d1, d2⟩, e1, hx, hc1⟩ := of_ok [[108], [114]] hc (by omega) (by simp)
    have hx1 : x.length = 1 := by simp at hx; rcases hx with rfl | rfl <;> rfl
    have wm : w64 (((m + 1 : Nat) : Int) - 1) = (m : Int) := by rw [w64_id (by omega) (by omega)]; omega
    obtain ⟨t3, c3, e4, h3, hc4⟩ := ih (K + 2) (d0, d1, d2) (out ++ x) hc1 (by omega) (by rw [List.length_append]; omega)
    rw [List.length_append] at h3
    refine ⟨t3, c3, ?_, by omega, hc4.mono (by omega)⟩
    simp only [s_l1Cur_word_L3] at e4 ⊢
    rw [← e4]
    refine loopO_next ?_
    rw [s_l1Cur_word_L3_step, T.run_test, if_pos (decide_eq_true (by omega)), T.run_test, if_pos rfl, T.run_sub, hw, e1, Option.bind_some, T.run_test, if_pos (decide_eq_true (by simp only; omega)), T.run_ret, wm]
theorem word_L10_ok : ∀ (n : Nat) (K : Int) (c : List Int × Int × Int) (out : List UInt8), curOK K c → K + 4 * (n : Int) < 1000000000000 → 42 ≤ out.length + n → out.length ≤ 100 →
    ∃ out' c', s_l1Cur_word_L10 (((), out), c) = some (out', c') ∧ out'.length ≤ 150 ∧ curOK (K + 4 * (n : Int) + 2) c' := by
  intro n
  induction n with
  | zero =>
    intro K c out hc hK h1 h2
    obtain ⟨c0, c1, c2⟩ := c
    obtain ⟨v, ⟨d0, d1, d2⟩, e, v0, v1, _, hc1⟩ := pick_ok 2 hc (by omega)
    have v1 := v1 (by omega)
    have wv : w64 (40 + v) = 40 + v := w64_id (by omega) (by omega)
    refine ⟨out, (d0, d1, d2), ?_, by omega, hc1.mono (by omega)⟩
    simp only [s_l1Cur_word_L10]
    refine loopO_done ?_
    rw [s_l1Cur_word_L10_step, T.run_sub, e, Option.bind_some, T.run_test, wv, if_neg (by rw [decide_eq_true_eq]; omega), T.run_ret]
  | succ n ih =>
    intro K c out hc hK h1 h2
    obtain ⟨c0, c1, c2⟩ := c
    obtain ⟨v, ⟨d0, d1, d2⟩, e, v0, v1, _, hc1⟩ := pick_ok 2 hc (by omega)
    have v1 := v1 (by omega)
    have wv : w64 (40 + v) = 40 + v := w64_id (by omega) (by omega)
    by_cases hlt : (out.length : Int) < 40 + v
    · have hw : (win (List.set (List.set (List.set (List.replicate 3 ([] : List (UInt8))) 0 [(108 : UInt8)]) 1 [(114 : UInt8)]) 2 [(108 : UInt8), (114 : UInt8)]) 0 3) = [[108], [114], [108, 114]] := rfl
      obtain ⟨x, ⟨f0, f1, f2⟩, e1, hx, hc2⟩ := of_ok [[108], [114], [108, 114]] hc1 (by omega) (by simp)
      have hx1 : 1 ≤ x.length ∧ x.length ≤ 2 := by simp at hx; rcases hx with rfl | rfl | rfl <;> simp
      obtain ⟨t3, c3, e4, h3, hc4⟩ := ih (K + 4) (f0, f1, f2) (out ++ x) (hc2.mono (by omega)) (by omega) (by rw [List.length_append]; omega) (by rw [List.length_append]; omega)
      refine ⟨t3, c3, ?_, by omega, hc4.mono (by omega)⟩
      simp only [s_l1Cur_word_L10] at e4 ⊢
      rw [← e4]
      refine loopO_next ?_
      rw [s_l1Cur_word_L10_step, T.run_sub, e, Option.bind_some, T.run_test, wv, if_pos (decide_eq_true hlt), T.run_test, if_pos rfl, T.run_sub, hw, e1, Option.bind_some, T.run_test, if_pos (decide_eq_true (by simp only; omega)), T.run_ret]
    · refine ⟨out, (d0, d1, d2), ?_, by omega, hc1.mono (by omega)⟩
      simp only [s_l1Cur_word_L10]
      refine loopO_done ?_
      rw [s_l1Cur_word_L10_step, T.run_sub, e, Option.bind_some, T.run_test, wv, if_neg (by rw [decide_eq_true_eq]; exact hlt), T.run_ret]
theorem word_ok {K : Int} {c : List Int × Int × Int} (h : curOK K c) (hK : K < 100000000) :
    ∃ w c', s_l1Cur_word ((), c) = some (w, c') ∧ w.length ≤ 200 ∧ curOK (K + 300) c' := by
  obtain ⟨c0, c1, c2⟩ := c
  obtain ⟨v, ⟨d0, d1, d2⟩, e, h0, h1, _, hc⟩ := pick_ok 12 h (by omega)
  have h1 := h1 (by omega)
  obtain ⟨n, hn⟩ : ∃ n : Nat, v = (n : Int) := ⟨v.toNat, by omega⟩
  subst hn
  obtain ⟨w, ⟨f0, f1, f2⟩, e2, h2, hc2⟩ := word_L3_ok n _ _ [] hc (by omega) (by simp only [List.length_nil]; omega)
  rw [List.length_nil] at h2
  obtain ⟨u, ⟨g0, g1, g2⟩, e3, _, _, _, hc3⟩ := pick_ok 14 hc2 (by omega)
  rw [s_l1Cur_word, s_l1Cur_word_t, T.run_sub, e, Option.bind_some, T.run_sub, e2, Option.bind_some, T.run_sub, e3, Option.bind_some, T.run_test]
  by_cases u0 : (u == 0) = true
  · obtain ⟨t, ⟨j0, j1, j2⟩, e4, h4, hc4⟩ := spoilt_ok w [108, 114, 120] hc3 (by omega) (by omega) (by simp) (by simp)
    rw [if_pos u0, T.run_sub, e4, Option.bind_some, T.run_ret]
    exact ⟨_, _, rfl, by simp only; omega, hc4.mono (by omega)⟩
  rw [if_neg u0, T.run_test]
  by_cases u1 : (u == 1) = true
  · obtain ⟨t, ⟨j0, j1, j2⟩, e4, h4, hc4⟩ := word_L10_ok 42 _ _ w hc3 (by omega) (by omega) (by omega)
    rw [if_pos u1, T.run_sub, e4, Option.bind_some, T.run_ret]
    exact ⟨_, _, rfl, by simp only; omega, hc4.mono (by omega)⟩
  rw [if_neg u1, T.run_ret]
  exact ⟨_, _, rfl, by simp only; omega, hc3.mono (by omega)⟩


def s_mxOne_sh : FSh := ⟨[], []⟩

def s_mxOne_fo : List FO := [⟨[(.ag [(.si .i64), (.si .i64), (.si .i64), (.si .i64)])], []⟩]
noncomputable def s_mxOne_t : Unit → T (Int × Int × Int × Int) := fun () =>
  (.ret ((1 : Int), ((0 : Int), ((0 : Int), (1 : Int)))))
noncomputable def s_mxOne (v : Unit) : Option (Int × Int × Int × Int) := (s_mxOne_t v).run
noncomputable def s_mxOne_E : TEnv := E0
theorem s_mxOne_Eok : (s_mxOne_E).OK := E0ok
noncomputable def s_mxOne_told : Nat → Option SealT := fun id => none
theorem s_mxOne_ok : FOK Tryd.prog n_s_mxOne s_mxOne_sh s_mxOne_fo s_mxOne :=
  fn_ok (E := s_mxOne_E) (s_mxOne_Eok) (told := s_mxOne_told) (fl := []) (c := bodyOf fn_s_mxOne) (s := s_mxOne_sh) (l := s_mxOne_fo) (tree := s_mxOne_t) fnat_s_mxOne (by kernel_rfl) (by kernel_rfl) (by kernel_rfl) (loopsOK_of (ls := []) (by kernel_rfl) trivial) (fun v => by kernel_rfl)

theorem s_mxOne_eq : s_mxOne () = some one4 := rfl


def s_mxLetter_sh : FSh := ⟨[(.one (.si .u8))], []⟩

def s_mxLetter_fo : List FO := [⟨[(.ag [(.si .i64), (.si .i64), (.si .i64), (.si .i64)]), (.one .sb)], []⟩]
noncomputable def s_mxLetter_t : Int → T ((Int × Int × Int × Int) × Bool) := fun c =>
  (.test (c == 108)
  (.ret (((1 : Int), ((0 : Int), ((1 : Int), (1 : Int)))), true))
  (.test (c == 114)
   (.ret (((1 : Int), ((1 : Int), ((0 : Int), (1 : Int)))), true))
   (.ret (((0 : Int), ((0 : Int), ((0 : Int), (0 : Int)))), false))))
noncomputable def s_mxLetter (v : Int) : Option ((Int × Int × Int × Int) × Bool) := (s_mxLetter_t v).run
noncomputable def s_mxLetter_E : TEnv := E0
theorem s_mxLetter_Eok : (s_mxLetter_E).OK := E0ok
noncomputable def s_mxLetter_told : Nat → Option SealT := fun id => none
theorem s_mxLetter_ok : FOK Tryd.prog n_s_mxLetter s_mxLetter_sh s_mxLetter_fo s_mxLetter :=
  fn_ok (E := s_mxLetter_E) (s_mxLetter_Eok) (told := s_mxLetter_told) (fl := []) (c := bodyOf fn_s_mxLetter) (s := s_mxLetter_sh) (l := s_mxLetter_fo) (tree := s_mxLetter_t) fnat_s_mxLetter (by kernel_rfl) (by kernel_rfl) (by kernel_rfl) (loopsOK_of (ls := []) (by kernel_rfl) trivial) (fun v => by kernel_rfl)

def s_mxTimes_sh : FSh := ⟨[(.ag [(.si .i64), (.si .i64), (.si .i64), (.si .i64)]), (.ag [(.si .i64), (.si .i64), (.si .i64), (.si .i64)])], []⟩

def s_mxTimes_fo : List FO := [⟨[(.ag [(.si .i64), (.si .i64), (.si .i64), (.si .i64)])], []⟩]
noncomputable def s_mxTimes_t : ((Int × Int × Int × Int) × (Int × Int × Int × Int)) → T (Int × Int × Int × Int) := fun ((m_0, m_1, m_2, m_3), (k_0, k_1, k_2, k_3)) =>
  (.ret ((w64 ((w64 (m_0 * k_0)) + (w64 (m_1 * k_2)))), ((w64 ((w64 (m_0 * k_1)) + (w64 (m_1 * k_3)))), ((w64 ((w64 (m_2 * k_0)) + (w64 (m_3 * k_2)))), (w64 ((w64 (m_2 * k_1)) + (w64 (m_3 * k_3))))))))
noncomputable def s_mxTimes (v : ((Int × Int × Int × Int) × (Int × Int × Int × Int))) : Option (Int × Int × Int × Int) := (s_mxTimes_t v).run
noncomputable def s_mxTimes_E : TEnv := E0
theorem s_mxTimes_Eok : (s_mxTimes_E).OK := E0ok
noncomputable def s_mxTimes_told : Nat → Option SealT := fun id => none
theorem s_mxTimes_ok : FOK Tryd.prog n_s_mxTimes s_mxTimes_sh s_mxTimes_fo s_mxTimes :=
  fn_ok (E := s_mxTimes_E) (s_mxTimes_Eok) (told := s_mxTimes_told) (fl := []) (c := bodyOf fn_s_mxTimes) (s := s_mxTimes_sh) (l := s_mxTimes_fo) (tree := s_mxTimes_t) fnat_s_mxTimes (by kernel_rfl) (by kernel_rfl) (by kernel_rfl) (loopsOK_of (ls := []) (by kernel_rfl) trivial) (fun v => by kernel_rfl)

theorem s_mxTimes_eq (m k : M4) (hm : in4 1000000000 m) (hk : in4 1000000000 k) : s_mxTimes (m, k) = some (mul4 m k) := by
  obtain ⟨a, b, c, d⟩ := m
  obtain ⟨e, f, g, h⟩ := k
  simp only [in4] at hm hk
  obtain ⟨a1, a2, b1, b2, c1, c2, d1, d2⟩ := hm
  obtain ⟨e1, e2, f1, f2, g1, g2, h1, h2⟩ := hk
  simp only [s_mxTimes, s_mxTimes_t, T.run, mul4]
  have x1 := mul_le a1 a2 e1 e2
  have x2 := mul_le b1 b2 g1 g2
  have x3 := mul_le a1 a2 f1 f2
  have x4 := mul_le b1 b2 h1 h2
  have x5 := mul_le c1 c2 e1 e2
  have x6 := mul_le d1 d2 g1 g2
  have x7 := mul_le c1 c2 f1 f2
  have x8 := mul_le d1 d2 h1 h2
  rw [w64_id (z := a * e) (by omega) (by omega), w64_id (z := b * g) (by omega) (by omega), w64_id (z := a * f) (by omega) (by omega), w64_id (z := b * h) (by omega) (by omega),
    w64_id (z := c * e) (by omega) (by omega), w64_id (z := d * g) (by omega) (by omega), w64_id (z := c * f) (by omega) (by omega), w64_id (z := d * h) (by omega) (by omega),
    w64_id (by omega) (by omega), w64_id (by omega) (by omega), w64_id (by omega) (by omega), w64_id (by omega) (by omega)]


def s_l1In_sh : FSh := ⟨[(.one (.si .i64)), (.one (.si .i64)), (.one (.si .i64))], []⟩

def s_l1In_fo : List FO := [⟨[(.one .sb)], []⟩]
noncomputable def s_l1In_t : (Int × Int × Int) → T Bool := fun (n, lo, hi) =>
  (.test (decide (n ≥ lo))
  (.ret (decide (n ≤ hi)))
  (.ret false))
noncomputable def s_l1In (v : (Int × Int × Int)) : Option Bool := (s_l1In_t v).run
noncomputable def s_l1In_E : TEnv := E0
theorem s_l1In_Eok : (s_l1In_E).OK := E0ok
noncomputable def s_l1In_told : Nat → Option SealT := fun id => none
theorem s_l1In_ok : FOK Tryd.prog n_s_l1In s_l1In_sh s_l1In_fo s_l1In :=
  fn_ok (E := s_l1In_E) (s_l1In_Eok) (told := s_l1In_told) (fl := []) (c := bodyOf fn_s_l1In) (s := s_l1In_sh) (l := s_l1In_fo) (tree := s_l1In_t) fnat_s_l1In (by kernel_rfl) (by kernel_rfl) (by kernel_rfl) (loopsOK_of (ls := []) (by kernel_rfl) trivial) (fun v => by kernel_rfl)

theorem s_l1In_eq (n low high : Int) : s_l1In (n, low, high) = some (inB low high n) := by
  simp only [s_l1In, s_l1In_t, T.run, ge_iff_le, decide_eq_true_eq, inB]
  by_cases h : low ≤ n <;> simp [h]


def s_l1All_sh : FSh := ⟨[(.one (.sl (.int .i64) false false)), (.one (.si .i64)), (.one (.si .i64))], []⟩

def s_l1All_L2_sh : LSh := ⟨(fun ex => match ex with | .norm => [(1, none), (2, none), (9, none), (10, none), (11, none)] | .exit i => if i = 0 then [] else [] | .ret => [(6, none)]), [(1, (.one (.si .i64))), (2, (.one (.si .i64))), (9, (.one (.sl (.int .i64) false false))), (10, (.one (.si .i64))), (11, (.one (.si .i64)))], [], [⟨.ret, [(6, (.one .sb))], []⟩, ⟨(.exit 0), [], []⟩], [], []⟩
noncomputable def s_l1All_L2_step : (Int × Int × List (Int) × Int × Int) → T ((Int × Int × List (Int) × Int × Int) ⊕ (Bool ⊕ Unit)) := fun (lo, hi, t9, t10, t11) =>
  (.test (decide (t11 < t10))
  (.test (decide ((0 ≤ t11) ∧ (t11 < ((List.length t9) : Int))))
   (.sub (t9[(Int.toNat t11)]?) fun z0 =>
    (.sub (s_l1In (z0, (lo, hi))) fun z1 =>
    (.test (! z1)
    (.ret (Sum.inr (Sum.inl false)))
    (.ret (Sum.inl (lo, (hi, (t9, (t10, (w64 (t11 + 1)))))))))))
   .fail)
  (.ret (Sum.inr (Sum.inr ()))))
noncomputable def s_l1All_L2 (v : (Int × Int × List (Int) × Int × Int)) : Option (Bool ⊕ Unit) := loopO (fun v => (s_l1All_L2_step v).run) v

def s_l1All_fo : List FO := [⟨[(.one .sb)], []⟩]
noncomputable def s_l1All_t : (List (Int) × Int × Int) → T Bool := fun (l, lo, hi) =>
  (.sub (s_l1All_L2 (lo, (hi, (l, (((List.length l) : Int), (0 : Int)))))) fun z0 =>
  (.test (Sum.isLeft z0)
  (.sub (Sum.getLeft? z0) fun z1 =>
   (.ret z1))
  (.sub (Sum.getRight? z0) fun z2 =>
   (.ret true))))
noncomputable def s_l1All (v : (List (Int) × Int × Int)) : Option Bool := (s_l1All_t v).run
noncomputable def s_l1All_E : TEnv := (E0.add1 n_s_l1In s_l1In_sh s_l1In_fo s_l1In)
theorem s_l1All_Eok : (s_l1All_E).OK := (E0ok.add1 s_l1In_ok)
noncomputable def s_l1All_told : Nat → Option SealT := fun id => if id = 2 then some (LSh.told s_l1All_L2_sh 0 (s_l1All_L2_step)) else none
theorem s_l1All_L2_ok : ToldOK Tryd.prog 0 (loopAt (bodyOf fn_s_l1All) [0]) (LSh.told s_l1All_L2_sh 0 (s_l1All_L2_step)) :=
  loop_ok (E := s_l1All_E) (s_l1All_Eok) (told := s_l1All_told) (l := s_l1All_L2_sh) (step := s_l1All_L2_step) (loopsOK_of (ls := []) (by kernel_rfl) trivial) (by kernel_rfl) (fun v => by kernel_rfl)
theorem s_l1All_ok : FOK Tryd.prog n_s_l1All s_l1All_sh s_l1All_fo s_l1All :=
  fn_ok (E := s_l1All_E) (s_l1All_Eok) (told := s_l1All_told) (fl := []) (c := bodyOf fn_s_l1All) (s := s_l1All_sh) (l := s_l1All_fo) (tree := s_l1All_t) fnat_s_l1All (by kernel_rfl) (by kernel_rfl) (by kernel_rfl) (loopsOK_of (ls := [loopAt (bodyOf fn_s_l1All) [0]]) (by kernel_rfl) ⟨.inr ⟨_, by kernel_rfl, s_l1All_L2_ok⟩, trivial⟩) (fun v => by kernel_rfl)

theorem s_l1All_eq (l : List Int) (lo hi : Int) (hl : l.length < 4611686018427387904) : s_l1All (l, lo, hi) = some (l.all (inB lo hi)) := by
  have h := loop_any (step := fun v => (s_l1All_L2_step v).run) (xs := l) (fun n => !inB lo hi n) (fun k => (lo, hi, l, (l.length : Int), (k : Int))) (.inl false) (.inr ())
    (fun k x hx => by
      have hk := getElem?_lt hx
      simp only [s_l1All_L2_step, T.run, s_l1In_eq, Option.bind_some, Int.toNat_natCast, hx]
      rw [w64_id (by omega) (by omega)]
      cases inB lo hi x <;> simp [hk])
    (by simp [s_l1All_L2_step, T.run])
  simp only [s_l1All, s_l1All_t, T.run, s_l1All_L2]
  simp only [Int.natCast_zero] at h
  rw [h, ← all_any]
  cases hb : l.any (fun n => !inB lo hi n) <;> simp


def s_mxGood_sh : FSh := ⟨[(.ag [(.si .i64), (.si .i64), (.si .i64), (.si .i64)])], []⟩

def s_mxGood_fo : List FO := [⟨[(.one .sb)], []⟩]
noncomputable def s_mxGood_t : (Int × Int × Int × Int) → T Bool := fun (m_0, m_1, m_2, m_3) =>
  (.test (decide (4 ≤ (List.length (List.set (List.set (List.set (List.set (List.replicate 4 (0 : Int)) 0 m_0) 1 m_1) 2 m_2) 3 m_3))))
  (.sub (s_l1All ((win (List.set (List.set (List.set (List.set (List.replicate 4 (0 : Int)) 0 m_0) 1 m_1) 2 m_2) 3 m_3) 0 4), ((-1000000000), (1000000000 : Int)))) fun z0 =>
   (.test z0
   (.ret ((w64 ((w64 (m_0 * m_3)) - (w64 (m_1 * m_2)))) == 1))
   (.ret false)))
  .fail)
noncomputable def s_mxGood (v : (Int × Int × Int × Int)) : Option Bool := (s_mxGood_t v).run
noncomputable def s_mxGood_E : TEnv := (E0.add1 n_s_l1All s_l1All_sh s_l1All_fo s_l1All)
theorem s_mxGood_Eok : (s_mxGood_E).OK := (E0ok.add1 s_l1All_ok)
noncomputable def s_mxGood_told : Nat → Option SealT := fun id => none
theorem s_mxGood_ok : FOK Tryd.prog n_s_mxGood s_mxGood_sh s_mxGood_fo s_mxGood :=
  fn_ok (E := s_mxGood_E) (s_mxGood_Eok) (told := s_mxGood_told) (fl := []) (c := bodyOf fn_s_mxGood) (s := s_mxGood_sh) (l := s_mxGood_fo) (tree := s_mxGood_t) fnat_s_mxGood (by kernel_rfl) (by kernel_rfl) (by kernel_rfl) (loopsOK_of (ls := []) (by kernel_rfl) trivial) (fun v => by kernel_rfl)

theorem s_mxGood_eq (m : M4) : s_mxGood m = some (good4 m) := by
  obtain ⟨a, b, c, d⟩ := m
  simp only [s_mxGood, s_mxGood_t, T.run]
  have e : win (List.set (List.set (List.set (List.set (List.replicate 4 (0 : Int)) 0 a) 1 b) 2 c) 3 d) 0 4 = [a, b, c, d] := rfl
  rw [e, s_l1All_eq _ _ _ (by simp)]
  simp only [List.length_set, List.length_replicate, Option.bind_some, good4, List.all_cons, List.all_nil, Bool.and_true]
  cases h : inB (-1000000000) 1000000000 a && (inB (-1000000000) 1000000000 b && (inB (-1000000000) 1000000000 c && inB (-1000000000) 1000000000 d)) with
  | false => simp
  | true =>
    simp only [Bool.and_eq_true, inB_iff] at h
    rw [det_w h.1 h.2.1 h.2.2.1 h.2.2.2]
    simp [beq_int]


def s_mxIf_sh : FSh := ⟨[(.ag [(.si .i64), (.si .i64), (.si .i64), (.si .i64)])], []⟩

def s_mxIf_fo : List FO := [⟨[(.ag [(.si .i64), (.si .i64), (.si .i64), (.si .i64)]), (.one .sb)], []⟩]
noncomputable def s_mxIf_t : (Int × Int × Int × Int) → T ((Int × Int × Int × Int) × Bool) := fun (m_0, m_1, m_2, m_3) =>
  (.sub (s_mxGood (m_0, (m_1, (m_2, m_3)))) fun z0 =>
  (.test (! z0)
  (.ret (((0 : Int), ((0 : Int), ((0 : Int), (0 : Int)))), false))
  (.ret ((m_0, (m_1, (m_2, m_3))), true))))
noncomputable def s_mxIf (v : (Int × Int × Int × Int)) : Option ((Int × Int × Int × Int) × Bool) := (s_mxIf_t v).run
noncomputable def s_mxIf_E : TEnv := (E0.add1 n_s_mxGood s_mxGood_sh s_mxGood_fo s_mxGood)
theorem s_mxIf_Eok : (s_mxIf_E).OK := (E0ok.add1 s_mxGood_ok)
noncomputable def s_mxIf_told : Nat → Option SealT := fun id => none
theorem s_mxIf_ok : FOK Tryd.prog n_s_mxIf s_mxIf_sh s_mxIf_fo s_mxIf :=
  fn_ok (E := s_mxIf_E) (s_mxIf_Eok) (told := s_mxIf_told) (fl := []) (c := bodyOf fn_s_mxIf) (s := s_mxIf_sh) (l := s_mxIf_fo) (tree := s_mxIf_t) fnat_s_mxIf (by kernel_rfl) (by kernel_rfl) (by kernel_rfl) (loopsOK_of (ls := []) (by kernel_rfl) trivial) (fun v => by kernel_rfl)

theorem s_mxIf_eq (m : M4) : s_mxIf m = some (if good4 m then (m, true) else ((0, 0, 0, 0), false)) := by
  obtain ⟨a, b, c, d⟩ := m
  simp only [s_mxIf, s_mxIf_t, T.run, s_mxGood_eq, Option.bind_some]
  cases good4 (a, b, c, d) <;> simp
theorem good4_in {m : M4} (h : good4 m = true) : in4 1000000000 m := by
  obtain ⟨a, b, c, d⟩ := m
  rw [good4_iff] at h
  simp only [in4]; omega



/-- The matrix of a word. -/
def wL (c : UInt8) : M4 := if c.toNat = 108 then (1, 0, 1, 1) else (1, 1, 0, 1)
def wordG (m : M4) (w : List UInt8) : M4 := w.foldl (fun m c => mul4 m (wL c)) m
def isW (w : List UInt8) : Bool := w.all fun c => c.toNat == 108 || c.toNat == 114
theorem dropWhile_nil {X : Type} (p : X → Bool) : ∀ l : List X, l.dropWhile p = [] ↔ ∀ x ∈ l, p x = true
  | [] => by simp
  | a :: l => by
    rw [List.dropWhile_cons]
    by_cases h : p a = true
    · rw [if_pos h, dropWhile_nil p l]; simp [h]
    · rw [if_neg h]; simp [h]
theorem dropWhile_bad {X : Type} (p : X → Bool) : ∀ l : List X, (∃ x ∈ l, p x = false) → ∃ x ∈ l.dropWhile p, p x = false
  | [], h => by simp at h
  | a :: l, ⟨x, hx, h⟩ => by
    rw [List.dropWhile_cons]
    by_cases ha : p a = true
    · rw [if_pos ha]
      refine dropWhile_bad p l ⟨x, ?_, h⟩
      rcases List.mem_cons.1 hx with rfl | hx
      · rw [h] at ha; cases ha
      · exact hx
    · rw [if_neg ha]
      exact ⟨a, by simp, by simpa using ha⟩
theorem trimS_nil (l cs : List UInt8) : (Lib.trimS l cs == []) = l.all (cs.contains ·) := by
  unfold Lib.trimS Lib.trimLeftS Lib.trimRightS
  cases h : l.all (cs.contains ·) with
  | true =>
    rw [List.all_eq_true] at h
    have h1 : l.reverse.dropWhile (cs.contains ·) = [] := (dropWhile_nil _ _).2 fun x hx => h x (List.mem_reverse.1 hx)
    rw [h1]; rfl
  | false =>
    rw [List.all_eq_false] at h
    obtain ⟨x, hx, hc⟩ := h
    obtain ⟨y, hy, hyc⟩ := dropWhile_bad (cs.contains ·) l.reverse ⟨x, List.mem_reverse.2 hx, by simpa using hc⟩
    cases hd : (l.reverse.dropWhile (cs.contains ·)).reverse.dropWhile (cs.contains ·) with
    | nil =>
      have := (dropWhile_nil _ _).1 hd y (List.mem_reverse.2 hy)
      rw [this] at hyc; cases hyc
    | cons a t => rfl
theorem isW_contains (w : List UInt8) : (w.all fun x => ([108, 114] : List UInt8).contains x) = isW w := by
  unfold isW
  congr 1
  funext c
  have e : ∀ k : Nat, k < 256 → ((c == UInt8.ofNat k) = (c.toNat == k)) := by
    intro k hk
    rw [Bool.eq_iff_iff, beq_iff_eq, beq_iff_eq]
    constructor
    · rintro rfl; simp [UInt8.toNat_ofNat, Nat.mod_eq_of_lt hk]
    · intro h; rw [← h]; simp
  simp only [List.contains_cons, List.contains_nil, Bool.or_false]
  rw [show (c == 108) = (c.toNat == 108) from e 108 (by omega), show (c == 114) = (c.toNat == 114) from e 114 (by omega)]
theorem pw2 : ∀ k, k ≤ 40 → (2 : Int) ^ k ≤ 1099511627776 := by decide
theorem pw2s (k : Nat) : (2 : Int) ^ (k + 1) = 2 * 2 ^ k := by rw [Int.pow_succ, Int.mul_comm]
theorem wL_in (c : UInt8) : in4 1 (wL c) := by unfold wL; split <;> simp [in4]
theorem wL_mul {A : Int} {m : M4} (h : in4 A m) (c : UInt8) : in4 (2 * A) (mul4 m (wL c)) := by
  obtain ⟨a, b, d, e⟩ := m
  simp only [in4] at h
  unfold wL
  split <;> simp only [in4, mul4] <;> omega



/-- The matrix of a word, if there is one. -/
def wordR (w : List UInt8) : M4 × Bool := if decide ((w.length : Int) ≤ 40) && isW w then (if good4 (wordG one4 w) then (wordG one4 w, true) else ((0, 0, 0, 0), false)) else ((0, 0, 0, 0), false)


def s_MatrixOfWord_sh : FSh := ⟨[(.one .ss)], []⟩

def s_MatrixOfWord_L5_sh : LSh := ⟨(fun ex => match ex with | .norm => [(0, none), (2, none), (4, none), (5, none)] | .exit i => if i = 0 then [(2, none), (4, none)] else [] | .ret => [(2, none), (3, none)]), [(0, (.one .ss)), (2, (.one (.pf 0 0 0))), (4, (.one (.pf 1 0 0))), (5, (.one (.si .i64)))], [(.rcd 0 [(.si .i64), (.si .i64), (.si .i64), (.si .i64)]), (.rcd 0 [(.si .i64), (.si .i64), (.si .i64), (.si .i64)])], [⟨.ret, [(2, (.one (.pf 0 0 0))), (3, (.one .sb))], [(.rcd 0 [(.si .i64), (.si .i64), (.si .i64), (.si .i64)])]⟩, ⟨(.exit 0), [(2, (.one (.pf 0 0 0))), (4, (.one (.pf 1 0 0)))], [(.rcd 0 [(.si .i64), (.si .i64), (.si .i64), (.si .i64)]), (.rcd 0 [(.si .i64), (.si .i64), (.si .i64), (.si .i64)])]⟩], [], []⟩
noncomputable def s_MatrixOfWord_L5_step : ((List UInt8 × Unit × Unit × Int) × ((Int × Int × Int × Int) × (Int × Int × Int × Int))) → T (((List UInt8 × Unit × Unit × Int) × ((Int × Int × Int × Int) × (Int × Int × Int × Int))) ⊕ (((Unit × Bool) × (Int × Int × Int × Int)) ⊕ ((Unit × Unit) × ((Int × Int × Int × Int) × (Int × Int × Int × Int))))) := fun ((word, (), (), i), ((t2_0, t2_1, t2_2, t2_3), (out_0, out_1, out_2, out_3))) =>
  (.test (decide (i < ((List.length word) : Int)))
  (.test (decide ((0 ≤ i) ∧ (i < ((List.length word) : Int))))
   (.sub (word[(Int.toNat i)]?) fun z0 =>
    (.sub (s_mxLetter ((UInt8.toNat z0) : Int)) fun z1 =>
    (.test (! z1.2)
    (.ret (Sum.inr (Sum.inl (((), false), ((0 : Int), ((0 : Int), ((0 : Int), (0 : Int))))))))
    (.sub (s_mxTimes ((out_0, (out_1, (out_2, out_3))), (z1.1.1, (z1.1.2.1, (z1.1.2.2.1, z1.1.2.2.2))))) fun z2 =>
     (.ret (Sum.inl ((word, ((), ((), (w64 (i + 1))))), ((t2_0, (t2_1, (t2_2, t2_3))), (z2.1, (z2.2.1, (z2.2.2.1, z2.2.2.2)))))))))))
   .fail)
  (.ret (Sum.inr (Sum.inr (((), ()), ((t2_0, (t2_1, (t2_2, t2_3))), (out_0, (out_1, (out_2, out_3)))))))))
noncomputable def s_MatrixOfWord_L5 (v : ((List UInt8 × Unit × Unit × Int) × ((Int × Int × Int × Int) × (Int × Int × Int × Int)))) : Option (((Unit × Bool) × (Int × Int × Int × Int)) ⊕ ((Unit × Unit) × ((Int × Int × Int × Int) × (Int × Int × Int × Int)))) := loopO (fun v => (s_MatrixOfWord_L5_step v).run) v

def s_MatrixOfWord_fo : List FO := [⟨[(.ag [(.si .i64), (.si .i64), (.si .i64), (.si .i64)]), (.one .sb)], []⟩]
noncomputable def s_MatrixOfWord_t : List UInt8 → T ((Int × Int × Int × Int) × Bool) := fun word =>
  (.test (decide (((List.length word) : Int) > 40))
  (.ret (((0 : Int), ((0 : Int), ((0 : Int), (0 : Int)))), false))
  (.sub (s_mxOne ()) fun z0 =>
   (.sub (s_MatrixOfWord_L5 ((word, ((), ((), (0 : Int)))), (((0 : Int), ((0 : Int), ((0 : Int), (0 : Int)))), (z0.1, (z0.2.1, (z0.2.2.1, z0.2.2.2)))))) fun z1 =>
   (.test (Sum.isLeft z1)
   (.sub (Sum.getLeft? z1) fun z2 =>
    (.ret ((z2.2.1, (z2.2.2.1, (z2.2.2.2.1, z2.2.2.2.2))), z2.1.2)))
   (.sub (Sum.getRight? z1) fun z3 =>
    (.sub (s_mxIf (z3.2.2.1, (z3.2.2.2.1, (z3.2.2.2.2.1, z3.2.2.2.2.2)))) fun z4 =>
    (.ret ((z4.1.1, (z4.1.2.1, (z4.1.2.2.1, z4.1.2.2.2))), z4.2))))))))
noncomputable def s_MatrixOfWord (v : List UInt8) : Option ((Int × Int × Int × Int) × Bool) := (s_MatrixOfWord_t v).run
noncomputable def s_MatrixOfWord_E : TEnv := ((((E0.add1 n_s_mxOne s_mxOne_sh s_mxOne_fo s_mxOne).add1 n_s_mxLetter s_mxLetter_sh s_mxLetter_fo s_mxLetter).add1 n_s_mxTimes s_mxTimes_sh s_mxTimes_fo s_mxTimes).add1 n_s_mxIf s_mxIf_sh s_mxIf_fo s_mxIf)
theorem s_MatrixOfWord_Eok : (s_MatrixOfWord_E).OK := ((((E0ok.add1 s_mxOne_ok).add1 s_mxLetter_ok).add1 s_mxTimes_ok).add1 s_mxIf_ok)
noncomputable def s_MatrixOfWord_told : Nat → Option SealT := fun id => if id = 5 then some (LSh.told s_MatrixOfWord_L5_sh 0 (s_MatrixOfWord_L5_step)) else none
theorem s_MatrixOfWord_L5_ok : ToldOK Tryd.prog 0 (loopAt (bodyOf fn_s_MatrixOfWord) [0]) (LSh.told s_MatrixOfWord_L5_sh 0 (s_MatrixOfWord_L5_step)) :=
  loop_ok (E := s_MatrixOfWord_E) (s_MatrixOfWord_Eok) (told := s_MatrixOfWord_told) (l := s_MatrixOfWord_L5_sh) (step := s_MatrixOfWord_L5_step) (loopsOK_of (ls := []) (by kernel_rfl) trivial) (by kernel_rfl) (fun v => by kernel_rfl)
theorem s_MatrixOfWord_ok : FOK Tryd.prog n_s_MatrixOfWord s_MatrixOfWord_sh s_MatrixOfWord_fo s_MatrixOfWord :=
  fn_ok (E := s_MatrixOfWord_E) (s_MatrixOfWord_Eok) (told := s_MatrixOfWord_told) (fl := []) (c := bodyOf fn_s_MatrixOfWord) (s := s_MatrixOfWord_sh) (l := s_MatrixOfWord_fo) (tree := s_MatrixOfWord_t) fnat_s_MatrixOfWord (by kernel_rfl) (by kernel_rfl) (by kernel_rfl) (loopsOK_of (ls := [loopAt (bodyOf fn_s_MatrixOfWord) [0]]) (by kernel_rfl) ⟨.inr ⟨_, by kernel_rfl, s_MatrixOfWord_L5_ok⟩, trivial⟩) (fun v => by kernel_rfl)

theorem mxTimes_eq2 (m k : M4) {A B : Int} (h : in4 A m) (h2 : in4 B k) (hAB : 2 * (A * B) ≤ 9223372036854775807) : s_mxTimes (m, k) = some (mul4 m k) := by
  obtain ⟨m0, m1, m2, m3⟩ := m
  obtain ⟨k0, k1, k2, k3⟩ := k
  simp only [in4] at h h2
  have a1 := mul_le (a := m0) (b := k0) (A := A) (B := B) (by omega) (by omega) (by omega) (by omega)
  have a2 := mul_le (a := m1) (b := k2) (A := A) (B := B) (by omega) (by omega) (by omega) (by omega)
  have a3 := mul_le (a := m0) (b := k1) (A := A) (B := B) (by omega) (by omega) (by omega) (by omega)
  have a4 := mul_le (a := m1) (b := k3) (A := A) (B := B) (by omega) (by omega) (by omega) (by omega)
  have a5 := mul_le (a := m2) (b := k0) (A := A) (B := B) (by omega) (by omega) (by omega) (by omega)
  have a6 := mul_le (a := m3) (b := k2) (A := A) (B := B) (by omega) (by omega) (by omega) (by omega)
  have a7 := mul_le (a := m2) (b := k1) (A := A) (B := B) (by omega) (by omega) (by omega) (by omega)
  have a8 := mul_le (a := m3) (b := k3) (A := A) (B := B) (by omega) (by omega) (by omega) (by omega)
  simp only [s_mxTimes, s_mxTimes_t, T.run]
  rw [w64_id (z := m0 * k0) (by omega) (by omega), w64_id (z := m1 * k2) (by omega) (by omega), w64_id (z := m0 * k1) (by omega) (by omega), w64_id (z := m1 * k3) (by omega) (by omega),
    w64_id (z := m2 * k0) (by omega) (by omega), w64_id (z := m3 * k2) (by omega) (by omega), w64_id (z := m2 * k1) (by omega) (by omega), w64_id (z := m3 * k3) (by omega) (by omega),
    w64_id (by omega) (by omega), w64_id (by omega) (by omega), w64_id (by omega) (by omega), w64_id (by omega) (by omega)]
  rfl
theorem s_MatrixOfWord_L5_eq (w : List UInt8) (hw : w.length ≤ 40) : ∀ (m k : Nat) (M : M4), k + m = w.length → in4 (2 ^ k) M →
    s_MatrixOfWord_L5 ((w, ((), ((), (k : Int)))), ((0, 0, 0, 0), M)) = some (if isW (w.drop k) then .inr (((), ()), ((0, 0, 0, 0), wordG M (w.drop k))) else .inl (((), false), (0, 0, 0, 0))) := by
  intro m
  induction m with
  | zero =>
    intro k M hk hM
    obtain ⟨a, b, c, d⟩ := M
    rw [List.drop_of_length_le (by omega)]
    simp only [s_MatrixOfWord_L5]
    refine loopO_done ?_
    rw [s_MatrixOfWord_L5_step, T.run_test, if_neg (by rw [decide_eq_true_eq]; omega), T.run_ret]
    rfl
  | succ m ih =>
    intro k M hk hM
    have hlt : k < w.length := by omega
    have w1 : w64 ((k : Int) + 1) = ((k + 1 : Nat) : Int) := by rw [w64_id (by omega) (by omega)]; omega
    have hg : w[k]? = some w[k] := List.getElem?_eq_getElem _
    have hp := pw2 k (by omega)
    have ih := ih (k + 1) (mul4 M (wL w[k])) (by omega) (by rw [pw2s]; exact wL_mul hM _)
    have ht := mxTimes_eq2 M (wL w[k]) hM (wL_in w[k]) (by omega)
    rw [List.drop_eq_getElem_cons hlt]
    have hI : isW (w[k] :: w.drop (k + 1)) = ((w[k].toNat == 108 || w[k].toNat == 114) && isW (w.drop (k + 1))) := rfl
    rw [hI]
    have hG : wordG M (w[k] :: w.drop (k + 1)) = wordG (mul4 M (wL w[k])) (w.drop (k + 1)) := rfl
    rw [hG]
    obtain ⟨a, b, c, d⟩ := M
    simp only [s_MatrixOfWord_L5] at ih ⊢
    have st : ∀ r, (s_mxLetter (w[k].toNat : Int)) = some r → (s_MatrixOfWord_L5_step ((w, ((), ((), (k : Int)))), ((0, 0, 0, 0), (a, b, c, d)))).run = (if r.2 then (s_mxTimes ((a, b, c, d), r.1)).bind fun z => some (.inl ((w, ((), ((), ((k + 1 : Nat) : Int)))), ((0, 0, 0, 0), z))) else some (.inr (.inl (((), false), (0, 0, 0, 0))))) := by
      intro r hr
      obtain ⟨⟨r1, r2, r3, r4⟩, rb⟩ := r
      rw [s_MatrixOfWord_L5_step, T.run_test, if_pos (decide_eq_true (by omega)), T.run_test, if_pos (decide_eq_true (by omega)), T.run_sub, Int.toNat_natCast, hg, Option.bind_some, T.run_sub, hr, Option.bind_some, T.run_test]
      cases rb with
      | false => rfl
      | true =>
        rw [if_neg (by simp), T.run_sub, w1]
        rfl
    by_cases h : w[k].toNat = 108
    · have hr : s_mxLetter (w[k].toNat : Int) = some ((1, 0, 1, 1), true) := by rw [h]; rfl
      have ht' : s_mxTimes ((a, b, c, d), (1, 0, 1, 1)) = some (mul4 (a, b, c, d) (wL w[k])) := by rw [← ht]; unfold wL; rw [if_pos h]
      rw [loopO_next (v' := ((w, ((), ((), ((k + 1 : Nat) : Int)))), ((0, 0, 0, 0), mul4 (a, b, c, d) (wL w[k])))), ih, h]
      · rfl
      · rw [st _ hr, ht']; rfl
    · by_cases h' : w[k].toNat = 114
      · have hr : s_mxLetter (w[k].toNat : Int) = some ((1, 1, 0, 1), true) := by rw [h']; rfl
        have ht' : s_mxTimes ((a, b, c, d), (1, 1, 0, 1)) = some (mul4 (a, b, c, d) (wL w[k])) := by rw [← ht]; unfold wL; rw [if_neg h]
        rw [loopO_next (v' := ((w, ((), ((), ((k + 1 : Nat) : Int)))), ((0, 0, 0, 0), mul4 (a, b, c, d) (wL w[k])))), ih, h']
        · rfl
        · rw [st _ hr, ht']; rfl
      · have hr : s_mxLetter (w[k].toNat : Int) = some ((0, 0, 0, 0), false) := by
          rw [s_mxLetter, s_mxLetter_t, T.run_test, if_neg (by rw [beq_iff_eq]; omega), T.run_test, if_neg (by rw [beq_iff_eq]; omega), T.run_ret]
        rw [show (w[k].toNat == 108 || w[k].toNat == 114) = false by rw [Bool.or_eq_false_iff, beq_eq_false_iff_ne, beq_eq_false_iff_ne]; exact ⟨h, h'⟩]
        exact loopO_done (by rw [st _ hr]; rfl)
theorem s_MatrixOfWord_eq (w : List UInt8) (hl : w.length < 4611686018427387904) : s_MatrixOfWord w = some (wordR w) := by
  rw [s_MatrixOfWord, s_MatrixOfWord_t, T.run_test]
  unfold wordR
  by_cases h40 : (w.length : Int) ≤ 40
  · rw [if_neg (by rw [decide_eq_true_eq]; omega), decide_eq_true h40, Bool.true_and, T.run_sub]
    have h1 : s_mxOne () = some one4 := rfl
    have hL := s_MatrixOfWord_L5_eq w (by omega) w.length 0 one4 (by omega) (by simp [in4, one4])
    rw [List.drop_zero, Int.natCast_zero] at hL
    have hL' : s_MatrixOfWord_L5 ((w, ((), ((), 0))), ((0, (0, (0, 0))), (one4.1, (one4.2.1, (one4.2.2.1, one4.2.2.2))))) = _ := hL
    rw [h1, Option.bind_some, T.run_sub, hL', Option.bind_some, T.run_test]
    cases isW w with
    | false => rfl
    | true =>
      generalize wordG one4 w = W
      have hc := s_mxIf_eq W
      obtain ⟨a, b, c, d⟩ := W
      simp only [if_true, Sum.isLeft, Bool.false_eq_true, if_false, T.run_sub, Sum.getRight?, Option.bind_some, hc]
      cases good4 (a, b, c, d) <;> rfl
  · rw [if_pos (decide_eq_true (by omega)), decide_eq_false h40]
    rfl


def s_l1Cur_terms_sh : FSh := ⟨[(.one (.pf 0 0 0)), (.one (.si .i64)), (.one (.si .i64))], [(.rcd 0 [(.sl (.int .u8) false true), (.si .i64), (.si .u64)])]⟩

def s_l1Cur_terms_L3_sh : LSh := ⟨(fun ex => match ex with | .norm => [(0, none), (1, none), (2, none), (7, none), (8, none)] | .exit i => if i = 0 then [(0, none), (7, none)] else [] | .ret => [(6, none)]), [(0, (.one (.pf 0 0 0))), (1, (.one (.si .i64))), (2, (.one (.si .i64))), (7, (.one (.rw 1 0))), (8, (.one (.si .i64)))], [(.rcd 0 [(.sl (.int .u8) false true), (.si .i64), (.si .u64)]), (.row 0 (.int .i64))], [⟨(.exit 0), [(0, (.one (.pf 0 0 0))), (7, (.one (.rw 1 0)))], [(.rcd 0 [(.sl (.int .u8) false true), (.si .i64), (.si .u64)]), (.row 0 (.int .i64))]⟩], [], []⟩
noncomputable def s_l1Cur_terms_L3_step : ((Unit × Int × Int × Unit × Int) × ((List (Int) × Int × Int) × List (Int))) → T (((Unit × Int × Int × Unit × Int) × ((List (Int) × Int × Int) × List (Int))) ⊕ ((Unit × Unit) × ((List (Int) × Int × Int) × List (Int)))) := fun (((), low, high, (), k), ((c_0, c_1, c_2), out)) =>
  (.test (decide (k > 0))
  (.sub (s_l1Cur_pick (((), (w64 ((w64 (high - low)) + 1))), (c_0, (c_1, c_2)))) fun z0 =>
   (.test (decide (1 ≤ (List.length (List.set (List.replicate 1 (0 : Int)) 0 (w64 (low + z0.1))))))
   (.test (decide ((0 + (List.length out)) ≤ (List.length out)))
    (.test (decide ((2 * (((List.length out) + (List.length (win (List.set (List.replicate 1 (0 : Int)) 0 (w64 (low + z0.1))) 0 1))) * 9)) ≤ 140737488355328))
     (.test (decide ((0 = 0) ∧ (((List.length out) + (List.length (win (List.set (List.replicate 1 (0 : Int)) 0 (w64 (low + z0.1))) 0 1))) = (List.length ((win out 0 (List.length out)) ++ (win (List.set (List.replicate 1 (0 : Int)) 0 (w64 (low + z0.1))) 0 1))))))
      (.ret (Sum.inl (((), (low, (high, ((), (w64 (k - 1)))))), ((z0.2.1, (z0.2.2.1, z0.2.2.2)), ((win out 0 (List.length out)) ++ (win (List.set (List.replicate 1 (0 : Int)) 0 (w64 (low + z0.1))) 0 1))))))
      .fail)
     .fail)
    .fail)
   .fail))
  (.test (decide ((0 = 0) ∧ ((List.length out) = (List.length out))))
   (.ret (Sum.inr (((), ()), ((c_0, (c_1, c_2)), out))))
   .fail))
noncomputable def s_l1Cur_terms_L3 (v : ((Unit × Int × Int × Unit × Int) × ((List (Int) × Int × Int) × List (Int)))) : Option ((Unit × Unit) × ((List (Int) × Int × Int) × List (Int))) := loopO (fun v => (s_l1Cur_terms_L3_step v).run) v

def s_l1Cur_terms_L10_sh : LSh := ⟨(fun ex => match ex with | .norm => [(0, none), (7, none)] | .exit i => if i = 3 then [(7, none)] else if i = 2 then [(7, none)] else [] | .ret => [(6, none)]), [(0, (.one (.pf 0 0 0))), (7, (.one (.rw 1 0)))], [(.rcd 0 [(.sl (.int .u8) false true), (.si .i64), (.si .u64)]), (.row 0 (.int .i64))], [⟨(.exit 3), [(7, (.one (.rw 1 0)))], [(.rcd 0 [(.sl (.int .u8) false true), (.si .i64), (.si .u64)]), (.row 0 (.int .i64))]⟩], [], []⟩
noncomputable def s_l1Cur_terms_L10_step : ((Unit × Unit) × ((List (Int) × Int × Int) × List (Int))) → T (((Unit × Unit) × ((List (Int) × Int × Int) × List (Int))) ⊕ (Unit × ((List (Int) × Int × Int) × List (Int)))) := fun (((), ()), ((c_0, c_1, c_2), out)) =>
  (.sub (s_l1Cur_pick (((), (2 : Int)), (c_0, (c_1, c_2)))) fun z0 =>
  (.test (decide (((List.length out) : Int) < (w64 (10 + z0.1))))
  (.test true
   (.test (decide ((0 + (List.length out)) ≤ (List.length out)))
    (.test (decide ((2 * (((List.length out) + 1) * 9)) ≤ 140737488355328))
     (.test (decide ((0 = 0) ∧ (((List.length out) + 1) = (List.length ((win out 0 (List.length out)) ++ (win (List.set (List.replicate 1 (0 : Int)) 0 (2 : Int)) 0 1))))))
      (.ret (Sum.inl (((), ()), ((z0.2.1, (z0.2.2.1, z0.2.2.2)), ((win out 0 (List.length out)) ++ (win (List.set (List.replicate 1 (0 : Int)) 0 (2 : Int)) 0 1))))))
      .fail)
     .fail)
    .fail)
   .fail)
  (.test (decide ((0 = 0) ∧ ((List.length out) = (List.length out))))
   (.ret (Sum.inr ((), ((z0.2.1, (z0.2.2.1, z0.2.2.2)), out))))
   .fail)))
noncomputable def s_l1Cur_terms_L10 (v : ((Unit × Unit) × ((List (Int) × Int × Int) × List (Int)))) : Option (Unit × ((List (Int) × Int × Int) × List (Int))) := loopO (fun v => (s_l1Cur_terms_L10_step v).run) v

def s_l1Cur_terms_L13_sh : LSh := ⟨(fun ex => match ex with | .norm => [(7, none)] | .exit i => if i = 5 then [(7, none)] else if i = 2 then [(7, none)] else [] | .ret => [(6, none)]), [(7, (.one (.rw 1 0)))], [(.rcd 0 [(.sl (.int .u8) false true), (.si .i64), (.si .u64)]), (.row 0 (.int .i64))], [⟨(.exit 5), [(7, (.one (.rw 1 0)))], [(.rcd 0 [(.sl (.int .u8) false true), (.si .i64), (.si .u64)]), (.row 0 (.int .i64))]⟩], [], []⟩
noncomputable def s_l1Cur_terms_L13_step : (Unit × ((List (Int) × Int × Int) × List (Int))) → T ((Unit × ((List (Int) × Int × Int) × List (Int))) ⊕ (Unit × ((List (Int) × Int × Int) × List (Int)))) := fun ((), ((r0_0, r0_1, r0_2), out)) =>
  (.test (decide (((List.length out) : Int) < 10))
  (.test true
   (.test (decide ((0 + (List.length out)) ≤ (List.length out)))
    (.test (decide ((2 * (((List.length out) + 1) * 9)) ≤ 140737488355328))
     (.test (decide ((0 = 0) ∧ (((List.length out) + 1) = (List.length ((win out 0 (List.length out)) ++ (win (List.set (List.replicate 1 (0 : Int)) 0 (30 : Int)) 0 1))))))
      (.ret (Sum.inl ((), ((r0_0, (r0_1, r0_2)), ((win out 0 (List.length out)) ++ (win (List.set (List.replicate 1 (0 : Int)) 0 (30 : Int)) 0 1))))))
      .fail)
     .fail)
    .fail)
   .fail)
  (.test (decide ((0 = 0) ∧ ((List.length out) = (List.length out))))
   (.ret (Sum.inr ((), ((r0_0, (r0_1, r0_2)), out))))
   .fail))
noncomputable def s_l1Cur_terms_L13 (v : (Unit × ((List (Int) × Int × Int) × List (Int)))) : Option (Unit × ((List (Int) × Int × Int) × List (Int))) := loopO (fun v => (s_l1Cur_terms_L13_step v).run) v

def s_l1Cur_terms_fo : List FO := [⟨[(.one (.rw 1 0))], [(.rcd 0 [(.sl (.int .u8) false true), (.si .i64), (.si .u64)]), (.row 0 (.int .i64))]⟩]
noncomputable def s_l1Cur_terms_t : ((Unit × Int × Int) × (List (Int) × Int × Int)) → T (Unit × ((List (Int) × Int × Int) × List (Int))) := fun (((), low, high), (c_0, c_1, c_2)) =>
  (.sub (s_l1Cur_pick (((), (8 : Int)), (c_0, (c_1, c_2)))) fun z0 =>
  (.test (decide ((0 = 0) ∧ (0 = (List.length ([] : List (Int))))))
  (.sub (s_l1Cur_terms_L3 (((), (low, (high, ((), z0.1)))), ((z0.2.1, (z0.2.2.1, z0.2.2.2)), ([] : List (Int))))) fun z1 =>
   (.sub (s_l1Cur_pick (((), (14 : Int)), (z1.2.1.1, (z1.2.1.2.1, z1.2.1.2.2)))) fun z2 =>
   (.test (z2.1 == 0)
   (.test true
    (.sub (s_l1Cur_among (((), (win (List.set (List.set (List.set (List.set (List.replicate 4 (0 : Int)) 0 (30 : Int)) 1 (31 : Int)) 2 (-30)) 3 (-9223372036854775808)) 0 4)), (z2.2.1, (z2.2.2.1, z2.2.2.2)))) fun z3 =>
     (.test (decide (1 ≤ (List.length (List.set (List.replicate 1 (0 : Int)) 0 z3.1))))
     (.test (decide ((0 + (List.length z1.2.2)) ≤ (List.length z1.2.2)))
      (.test (decide ((2 * (((List.length z1.2.2) + (List.length (win (List.set (List.replicate 1 (0 : Int)) 0 z3.1) 0 1))) * 9)) ≤ 140737488355328))
       (.test (decide ((0 = 0) ∧ (((List.length z1.2.2) + (List.length (win (List.set (List.replicate 1 (0 : Int)) 0 z3.1) 0 1))) = (List.length ((win z1.2.2 0 (List.length z1.2.2)) ++ (win (List.set (List.replicate 1 (0 : Int)) 0 z3.1) 0 1))))))
        (.ret ((), ((z3.2.1, (z3.2.2.1, z3.2.2.2)), ((win z1.2.2 0 (List.length z1.2.2)) ++ (win (List.set (List.replicate 1 (0 : Int)) 0 z3.1) 0 1)))))
        .fail)
       .fail)
      .fail)
     .fail))
    .fail)
   (.test (z2.1 == 1)
    (.test (decide ((0 = 0) ∧ ((List.length z1.2.2) = (List.length z1.2.2))))
     (.sub (s_l1Cur_terms_L10 (((), ()), ((z2.2.1, (z2.2.2.1, z2.2.2.2)), z1.2.2))) fun z4 =>
      (.test (decide ((0 = 0) ∧ ((List.length z4.2.2) = (List.length z4.2.2))))
      (.ret ((), ((z4.2.1.1, (z4.2.1.2.1, z4.2.1.2.2)), z4.2.2)))
      .fail))
     .fail)
    (.test (z2.1 == 2)
     (.test (decide ((0 = 0) ∧ ((List.length z1.2.2) = (List.length z1.2.2))))
      (.sub (s_l1Cur_terms_L13 ((), ((z2.2.1, (z2.2.2.1, z2.2.2.2)), z1.2.2))) fun z5 =>
       (.test (decide ((0 = 0) ∧ ((List.length z5.2.2) = (List.length z5.2.2))))
       (.ret ((), ((z5.2.1.1, (z5.2.1.2.1, z5.2.1.2.2)), z5.2.2)))
       .fail))
      .fail)
     (.test (decide ((0 = 0) ∧ ((List.length z1.2.2) = (List.length z1.2.2))))
      (.ret ((), ((z2.2.1, (z2.2.2.1, z2.2.2.2)), z1.2.2)))
      .fail))))))
  .fail))
noncomputable def s_l1Cur_terms (v : ((Unit × Int × Int) × (List (Int) × Int × Int))) : Option (Unit × ((List (Int) × Int × Int) × List (Int))) := (s_l1Cur_terms_t v).run
noncomputable def s_l1Cur_terms_E : TEnv := ((E0.add1 n_s_l1Cur_pick s_l1Cur_pick_sh s_l1Cur_pick_fo s_l1Cur_pick).add1 n_s_l1Cur_among s_l1Cur_among_sh s_l1Cur_among_fo s_l1Cur_among)
theorem s_l1Cur_terms_Eok : (s_l1Cur_terms_E).OK := ((E0ok.add1 s_l1Cur_pick_ok).add1 s_l1Cur_among_ok)
noncomputable def s_l1Cur_terms_told : Nat → Option SealT := fun id => if id = 3 then some (LSh.told s_l1Cur_terms_L3_sh 1 (s_l1Cur_terms_L3_step)) else if id = 10 then some (LSh.told s_l1Cur_terms_L10_sh 1 (s_l1Cur_terms_L10_step)) else if id = 13 then some (LSh.told s_l1Cur_terms_L13_sh 1 (s_l1Cur_terms_L13_step)) else none
theorem s_l1Cur_terms_L3_ok : ToldOK Tryd.prog 1 (loopAt (bodyOf fn_s_l1Cur_terms) [0]) (LSh.told s_l1Cur_terms_L3_sh 1 (s_l1Cur_terms_L3_step)) :=
  loop_ok (E := s_l1Cur_terms_E) (s_l1Cur_terms_Eok) (told := s_l1Cur_terms_told) (l := s_l1Cur_terms_L3_sh) (step := s_l1Cur_terms_L3_step) (loopsOK_of (ls := []) (by kernel_rfl) trivial) (by kernel_rfl) (fun v => by kernel_rfl)
theorem s_l1Cur_terms_L10_ok : ToldOK Tryd.prog 1 (loopAt (bodyOf fn_s_l1Cur_terms) [1]) (LSh.told s_l1Cur_terms_L10_sh 1 (s_l1Cur_terms_L10_step)) :=
  loop_ok (E := s_l1Cur_terms_E) (s_l1Cur_terms_Eok) (told := s_l1Cur_terms_told) (l := s_l1Cur_terms_L10_sh) (step := s_l1Cur_terms_L10_step) (loopsOK_of (ls := []) (by kernel_rfl) trivial) (by kernel_rfl) (fun v => by kernel_rfl)
theorem s_l1Cur_terms_L13_ok : ToldOK Tryd.prog 1 (loopAt (bodyOf fn_s_l1Cur_terms) [2]) (LSh.told s_l1Cur_terms_L13_sh 1 (s_l1Cur_terms_L13_step)) :=
  loop_ok (E := s_l1Cur_terms_E) (s_l1Cur_terms_Eok) (told := s_l1Cur_terms_told) (l := s_l1Cur_terms_L13_sh) (step := s_l1Cur_terms_L13_step) (loopsOK_of (ls := []) (by kernel_rfl) trivial) (by kernel_rfl) (fun v => by kernel_rfl)
theorem s_l1Cur_terms_ok : FOK Tryd.prog n_s_l1Cur_terms s_l1Cur_terms_sh s_l1Cur_terms_fo s_l1Cur_terms :=
  fn_ok (E := s_l1Cur_terms_E) (s_l1Cur_terms_Eok) (told := s_l1Cur_terms_told) (fl := []) (c := bodyOf fn_s_l1Cur_terms) (s := s_l1Cur_terms_sh) (l := s_l1Cur_terms_fo) (tree := s_l1Cur_terms_t) fnat_s_l1Cur_terms (by kernel_rfl) (by kernel_rfl) (by kernel_rfl) (loopsOK_of (ls := [loopAt (bodyOf fn_s_l1Cur_terms) [0], loopAt (bodyOf fn_s_l1Cur_terms) [1], loopAt (bodyOf fn_s_l1Cur_terms) [2]]) (by kernel_rfl) ⟨.inr ⟨_, by kernel_rfl, s_l1Cur_terms_L3_ok⟩, ⟨.inr ⟨_, by kernel_rfl, s_l1Cur_terms_L10_ok⟩, ⟨.inr ⟨_, by kernel_rfl, s_l1Cur_terms_L13_ok⟩, trivial⟩⟩⟩) (fun v => by kernel_rfl)

def s_ctGood_sh : FSh := ⟨[(.one (.sl (.int .i64) false false))], []⟩

def s_ctGood_fo : List FO := [⟨[(.one .sb)], []⟩]
noncomputable def s_ctGood_t : List (Int) → T Bool := fun list =>
  (.test (decide (((List.length list) : Int) ≤ 10))
  (.sub (s_l1All (list, ((-30), (30 : Int)))) fun z0 =>
   (.ret z0))
  (.ret false))
noncomputable def s_ctGood (v : List (Int)) : Option Bool := (s_ctGood_t v).run
noncomputable def s_ctGood_E : TEnv := (E0.add1 n_s_l1All s_l1All_sh s_l1All_fo s_l1All)
theorem s_ctGood_Eok : (s_ctGood_E).OK := (E0ok.add1 s_l1All_ok)
noncomputable def s_ctGood_told : Nat → Option SealT := fun id => none
theorem s_ctGood_ok : FOK Tryd.prog n_s_ctGood s_ctGood_sh s_ctGood_fo s_ctGood :=
  fn_ok (E := s_ctGood_E) (s_ctGood_Eok) (told := s_ctGood_told) (fl := []) (c := bodyOf fn_s_ctGood) (s := s_ctGood_sh) (l := s_ctGood_fo) (tree := s_ctGood_t) fnat_s_ctGood (by kernel_rfl) (by kernel_rfl) (by kernel_rfl) (loopsOK_of (ls := []) (by kernel_rfl) trivial) (fun v => by kernel_rfl)

theorem s_ctGood_eq (l : List Int) (hl : l.length < 4611686018427387904) : s_ctGood l = some (isTerms l) := by
  simp only [s_ctGood, s_ctGood_t, T.run, s_l1All_eq _ _ _ hl, Option.bind_some, isTerms, decide_eq_true_eq]
  by_cases h : l.length ≤ 10
  · rw [if_pos (by omega)]; simp [h]
  · rw [if_neg (by omega)]; simp [h]


def s_ctValue_sh : FSh := ⟨[(.one (.sl (.int .i64) false false)), (.one (.si .i64))], []⟩

def s_ctValue_L3_sh : LSh := ⟨(fun ex => match ex with | .norm => [(1, none), (5, none), (6, none), (10, none), (11, none), (12, none)] | .exit i => if i = 0 then [(6, none)] else [] | .ret => [(4, none)]), [(1, (.one (.si .i64))), (5, (.one (.si .i64))), (6, (.one (.si .i64))), (10, (.one (.sl (.int .i64) false false))), (11, (.one (.si .i64))), (12, (.one (.si .i64)))], [], [⟨(.exit 0), [(6, (.one (.si .i64)))], []⟩], [], []⟩
noncomputable def s_ctValue_L3_step : (Int × Int × Int × List (Int) × Int × Int) → T ((Int × Int × Int × List (Int) × Int × Int) ⊕ Int) := fun (sign, before, at', t10, t11, t12) =>
  (.test (decide (t12 < t11))
  (.test (decide ((0 ≤ t12) ∧ (t12 < ((List.length t10) : Int))))
   (.sub (t10[(Int.toNat t12)]?) fun z0 =>
    (.ret (Sum.inl (sign, (at', ((w64 ((w64 (z0 * at')) + (w64 (sign * before)))), (t10, (t11, (w64 (t12 + 1))))))))))
   .fail)
  (.ret (Sum.inr at')))
noncomputable def s_ctValue_L3 (v : (Int × Int × Int × List (Int) × Int × Int)) : Option Int := loopO (fun v => (s_ctValue_L3_step v).run) v

def s_ctValue_fo : List FO := [⟨[(.one (.si .i64))], []⟩]
noncomputable def s_ctValue_t : (List (Int) × Int) → T Int := fun (list, sign) =>
  (.sub (s_ctValue_L3 (sign, ((0 : Int), ((1 : Int), (list, (((List.length list) : Int), (0 : Int))))))) fun z0 =>
  (.ret z0))
noncomputable def s_ctValue (v : (List (Int) × Int)) : Option Int := (s_ctValue_t v).run
noncomputable def s_ctValue_E : TEnv := E0
theorem s_ctValue_Eok : (s_ctValue_E).OK := E0ok
noncomputable def s_ctValue_told : Nat → Option SealT := fun id => if id = 3 then some (LSh.told s_ctValue_L3_sh 0 (s_ctValue_L3_step)) else none
theorem s_ctValue_L3_ok : ToldOK Tryd.prog 0 (loopAt (bodyOf fn_s_ctValue) [0]) (LSh.told s_ctValue_L3_sh 0 (s_ctValue_L3_step)) :=
  loop_ok (E := s_ctValue_E) (s_ctValue_Eok) (told := s_ctValue_told) (l := s_ctValue_L3_sh) (step := s_ctValue_L3_step) (loopsOK_of (ls := []) (by kernel_rfl) trivial) (by kernel_rfl) (fun v => by kernel_rfl)
theorem s_ctValue_ok : FOK Tryd.prog n_s_ctValue s_ctValue_sh s_ctValue_fo s_ctValue :=
  fn_ok (E := s_ctValue_E) (s_ctValue_Eok) (told := s_ctValue_told) (fl := []) (c := bodyOf fn_s_ctValue) (s := s_ctValue_sh) (l := s_ctValue_fo) (tree := s_ctValue_t) fnat_s_ctValue (by kernel_rfl) (by kernel_rfl) (by kernel_rfl) (loopsOK_of (ls := [loopAt (bodyOf fn_s_ctValue) [0]]) (by kernel_rfl) ⟨.inr ⟨_, by kernel_rfl, s_ctValue_L3_ok⟩, trivial⟩) (fun v => by kernel_rfl)

theorem s_ctValue_eq (l : List Int) (sign : Int) (hs : sign = 1 ∨ sign = -1) (hl : l.length ≤ 10) (ht : ∀ x ∈ l, -30 ≤ x ∧ x ≤ 30) : s_ctValue (l, sign) = some (cont sign l) := by
  have h := loop_fold (step := fun v => (s_ctValue_L3_step v).run) (xs := l) (fun k p => cfB k p) (fun k p => (sign, p.1, p.2, l, (l.length : Int), (k : Int))) (cf sign) (fun p => p.2)
    (fun k p x hP hx => by
      have hk := getElem?_lt hx
      have hb := cfB_step hs hP (ht x (List.mem_of_getElem? hx))
      have hp := pw_le (k := k + 1) (by omega)
      have hp2 := pw_succ k
      obtain ⟨h1, h2, h3, h4⟩ := hP
      obtain ⟨⟨g1, g2, g3, g4⟩, g5, g6⟩ := hb
      simp only [s_ctValue_L3_step, T.run, Option.bind_some, Int.toNat_natCast, hx]
      simp only [cf] at g3 g4
      have e1 : w64 (x * p.2) = x * p.2 := w64_id (by omega) (by omega)
      have e2 : w64 (sign * p.1) = sign * p.1 := by rcases hs with rfl | rfl <;> exact w64_id (by omega) (by omega)
      rw [e1, e2, w64_id (by omega) (by omega), w64_id (by omega) (by omega)]
      exact ⟨by simp [hk, cf], ⟨g1, g2, g3, g4⟩⟩)
    (fun s hP => by simp [s_ctValue_L3_step, T.run]) (0, 1) (by simp [cfB, pw])
  simp only [s_ctValue, s_ctValue_t, T.run, s_ctValue_L3]
  simp only [Int.natCast_zero] at h
  rw [h.1]
  rfl


def s_mxList_sh : FSh := ⟨[(.one (.sl (.int .i64) false false))], []⟩

def s_mxList_fo : List FO := [⟨[(.ag [(.si .i64), (.si .i64), (.si .i64), (.si .i64)])], []⟩]
noncomputable def s_mxList_t : List (Int) → T (Int × Int × Int × Int) := fun list =>
  (.test (((List.length list) : Int) == 0)
  (.sub (s_mxOne ()) fun z0 =>
   (.ret (z0.1, (z0.2.1, (z0.2.2.1, z0.2.2.2)))))
  (.sub (s_ctValue (list, (-1))) fun z1 =>
   (.test (decide (0 ≤ (w64 (((List.length list) : Int) - 1))))
   (.test (decide ((0 ≤ (Int.toNat (w64 (((List.length list) : Int) - 1)))) ∧ ((Int.toNat (w64 (((List.length list) : Int) - 1))) ≤ (List.length list))))
    (.sub (s_ctValue ((win list 0 ((Int.toNat (w64 (((List.length list) : Int) - 1))) - 0)), (-1))) fun z2 =>
     (.test true
     (.test (decide ((1 ≤ (List.length list)) ∧ ((List.length list) ≤ (List.length list))))
      (.sub (s_ctValue ((win list 1 ((List.length list) - 1)), (-1))) fun z3 =>
       (.test (decide (((List.length list) : Int) > 1))
       (.test true
        (.test (decide (0 ≤ (w64 (((List.length list) : Int) - 1))))
         (.test (decide ((1 ≤ (Int.toNat (w64 (((List.length list) : Int) - 1)))) ∧ ((Int.toNat (w64 (((List.length list) : Int) - 1))) ≤ (List.length list))))
          (.sub (s_ctValue ((win list 1 ((Int.toNat (w64 (((List.length list) : Int) - 1))) - 1)), (-1))) fun z4 =>
           (.ret (z1, ((w64 (0 - z2)), (z3, (w64 (0 - z4)))))))
          .fail)
         .fail)
        .fail)
       (.ret (z1, ((w64 (0 - z2)), (z3, (0 : Int)))))))
      .fail)
     .fail))
    .fail)
   .fail)))
noncomputable def s_mxList (v : List (Int)) : Option (Int × Int × Int × Int) := (s_mxList_t v).run
noncomputable def s_mxList_E : TEnv := ((E0.add1 n_s_mxOne s_mxOne_sh s_mxOne_fo s_mxOne).add1 n_s_ctValue s_ctValue_sh s_ctValue_fo s_ctValue)
theorem s_mxList_Eok : (s_mxList_E).OK := ((E0ok.add1 s_mxOne_ok).add1 s_ctValue_ok)
noncomputable def s_mxList_told : Nat → Option SealT := fun id => none
theorem s_mxList_ok : FOK Tryd.prog n_s_mxList s_mxList_sh s_mxList_fo s_mxList :=
  fn_ok (E := s_mxList_E) (s_mxList_Eok) (told := s_mxList_told) (fl := []) (c := bodyOf fn_s_mxList) (s := s_mxList_sh) (l := s_mxList_fo) (tree := s_mxList_t) fnat_s_mxList (by kernel_rfl) (by kernel_rfl) (by kernel_rfl) (loopsOK_of (ls := []) (by kernel_rfl) trivial) (fun v => by kernel_rfl)

theorem s_mxList_eq (l : List Int) (h : isTerms l = true) : s_mxList l = some (mOf l) := by
  obtain ⟨hl, ht⟩ := isTerms_iff.1 h
  cases l with
  | nil => simp [s_mxList, s_mxList_t, T.run, s_mxOne_eq, mOf, one4]
  | cons b t =>
    have hb := mOf_B (b :: t) ht
    have hp := pw_le (k := (b :: t).length) (by omega)
    have ht' : ∀ x ∈ t, -30 ≤ x ∧ x ≤ 30 := fun x hx => ht x (List.mem_cons_of_mem _ hx)
    simp only [List.length_cons] at hl hp hb
    have e2 : w64 (((t.length + 1 : Nat) : Int) - 1) = (t.length : Int) := by rw [w64_id (by omega) (by omega)]; omega
    have e3 : win (b :: t) 0 t.length = (b :: t).dropLast := by rw [win_take, List.dropLast_eq_take]; simp
    have e4 : win (b :: t) 1 t.length = t := by unfold win; simp
    have e5 : win (b :: t) 1 (t.length - 1) = t.dropLast := by unfold win; simp [List.dropLast_eq_take]
    have hd : ∀ x ∈ (b :: t).dropLast, -30 ≤ x ∧ x ≤ 30 := fun x hx => ht x (by rw [List.dropLast_eq_take] at hx; exact List.mem_of_mem_take hx)
    have hd2 : ∀ x ∈ t.dropLast, -30 ≤ x ∧ x ≤ 30 := fun x hx => ht' x (by rw [List.dropLast_eq_take] at hx; exact List.mem_of_mem_take hx)
    have hc1 := s_ctValue_eq (b :: t) (-1) (.inr rfl) (by simpa using hl) ht
    have hc2 := s_ctValue_eq (b :: t).dropLast (-1) (.inr rfl) (by simp; omega) hd
    have hc3 := s_ctValue_eq t (-1) (.inr rfl) (by omega) ht'
    have hc4 := s_ctValue_eq t.dropLast (-1) (.inr rfl) (by simp; omega) hd2
    have f1 := cont2_fst (-1) (b :: t)
    have f2 := cont2_fst (-1) t
    simp only [mOf, f1, f2, reduceCtorEq, if_false, in4] at hb ⊢
    simp only [s_mxList, s_mxList_t, T.run, List.length_cons, e2, Int.toNat_natCast, Nat.sub_zero, Nat.add_sub_cancel, hc1, Option.bind_some, e3, e4, e5, hc2, hc3, hc4]
    have n1 : w64 (0 - cont (-1) (b :: t).dropLast) = -cont (-1) (b :: t).dropLast := by rw [w64_id (by omega) (by omega)]; omega
    by_cases h0 : t = []
    · subst h0
      rw [n1]
      simp
    · have hpos : 0 < t.length := List.length_pos_iff.2 h0
      simp only [if_neg h0] at hb ⊢
      have n2 : w64 (0 - cont (-1) t.dropLast) = -cont (-1) t.dropLast := by rw [w64_id (by omega) (by omega)]; omega
      rw [n1, n2]
      simp [show ¬ ((t.length : Int) + 1 = 0) by omega, show 1 < (t.length : Int) + 1 by omega, show 1 ≤ t.length by omega]


def s_MatrixOfList_sh : FSh := ⟨[(.one (.sl (.int .i64) false false))], []⟩

def s_MatrixOfList_fo : List FO := [⟨[(.ag [(.si .i64), (.si .i64), (.si .i64), (.si .i64)]), (.one .sb)], []⟩]
noncomputable def s_MatrixOfList_t : List (Int) → T ((Int × Int × Int × Int) × Bool) := fun list =>
  (.sub (s_ctGood list) fun z0 =>
  (.test (! z0)
  (.ret (((0 : Int), ((0 : Int), ((0 : Int), (0 : Int)))), false))
  (.sub (s_mxList list) fun z1 =>
   (.sub (s_mxIf (z1.1, (z1.2.1, (z1.2.2.1, z1.2.2.2)))) fun z2 =>
   (.ret ((z2.1.1, (z2.1.2.1, (z2.1.2.2.1, z2.1.2.2.2))), z2.2))))))
noncomputable def s_MatrixOfList (v : List (Int)) : Option ((Int × Int × Int × Int) × Bool) := (s_MatrixOfList_t v).run
noncomputable def s_MatrixOfList_E : TEnv := (((E0.add1 n_s_ctGood s_ctGood_sh s_ctGood_fo s_ctGood).add1 n_s_mxList s_mxList_sh s_mxList_fo s_mxList).add1 n_s_mxIf s_mxIf_sh s_mxIf_fo s_mxIf)
theorem s_MatrixOfList_Eok : (s_MatrixOfList_E).OK := (((E0ok.add1 s_ctGood_ok).add1 s_mxList_ok).add1 s_mxIf_ok)
noncomputable def s_MatrixOfList_told : Nat → Option SealT := fun id => none
theorem s_MatrixOfList_ok : FOK Tryd.prog n_s_MatrixOfList s_MatrixOfList_sh s_MatrixOfList_fo s_MatrixOfList :=
  fn_ok (E := s_MatrixOfList_E) (s_MatrixOfList_Eok) (told := s_MatrixOfList_told) (fl := []) (c := bodyOf fn_s_MatrixOfList) (s := s_MatrixOfList_sh) (l := s_MatrixOfList_fo) (tree := s_MatrixOfList_t) fnat_s_MatrixOfList (by kernel_rfl) (by kernel_rfl) (by kernel_rfl) (loopsOK_of (ls := []) (by kernel_rfl) trivial) (fun v => by kernel_rfl)

theorem s_MatrixOfList_eq (l : List Int) (hl : l.length < 4611686018427387904) : s_MatrixOfList l = some (if isTerms l && good4 (mOf l) then (mOf l, true) else ((0, 0, 0, 0), false)) := by
  simp only [s_MatrixOfList, s_MatrixOfList_t, T.run, s_ctGood_eq l hl, Option.bind_some]
  cases h : isTerms l with
  | false => simp
  | true =>
    simp only [Bool.not_true, Bool.false_eq_true, if_false, s_mxList_eq l h, Option.bind_some, s_mxIf_eq, Bool.true_and]



theorem terms_L3 (low high : Int) (hlo : -100 ≤ low ∧ low ≤ 100) (hhi : -100 ≤ high ∧ high ≤ 100) : ∀ (m : Nat) (K : Int) (c : List Int × Int × Int) (out : List Int), curOK K c → K + 2 * (m : Int) < 10000000000000 → m ≤ 100 → out.length + m ≤ 100 →
    ∃ c' out', s_l1Cur_terms_L3 (((), (low, (high, ((), (m : Int))))), (c, out)) = some (((), ()), (c', out')) ∧ out'.length ≤ out.length + m ∧ curOK (K + 2 * (m : Int)) c' := by
  intro m
  induction m with
  | zero =>
    intro K c out h hK hm hl
    obtain ⟨c0, c1, c2⟩ := c
    refine ⟨_, out, ?_, Nat.le_refl _, h.mono (by omega)⟩
    simp only [s_l1Cur_terms_L3]
    exact loopO_done (by simp [s_l1Cur_terms_L3_step, T.run])
  | succ m ih =>
    intro K c out h hK hm hl
    obtain ⟨c0, c1, c2⟩ := c
    obtain ⟨v, ⟨d0, d1, d2⟩, e, h0, h1, h2, hc⟩ := pick_ok (w64 (w64 (high - low) + 1)) h (by omega)
    obtain ⟨c', out', e2, h3, h4⟩ := ih (K + 2) (d0, d1, d2) (out ++ [w64 (low + v)]) hc (by omega) (by omega) (by simp; omega)
    refine ⟨c', out', ?_, by simp at h3; omega, h4.mono (by omega)⟩
    have c9 : ((m + 1 : Nat) : Int) > 0 := by omega
    have w1 : w64 (((m + 1 : Nat) : Int) - 1) = (m : Int) := by rw [w64_id (by omega) (by omega)]; omega
    have hlen : 2 * ((out.length + 1) * 9) ≤ 140737488355328 := by omega
    simp only [s_l1Cur_terms_L3] at e2 ⊢
    rw [← e2]
    refine loopO_next ?_
    rw [s_l1Cur_terms_L3_step, T.run_test, if_pos (decide_eq_true c9), T.run_sub, e, Option.bind_some]
    have wm : w64 (m : Int) = (m : Int) := w64_id (by omega) (by omega)
    simp [T.run, win_all, win_one, win_sing, hlen, wm]
theorem terms_L10 : ∀ (m : Nat) (K : Int) (c : List Int × Int × Int) (out : List Int), curOK K c → K + 2 * (m : Int) < 10000000000000 → m ≤ 100 → out.length ≤ 100 → 12 ≤ out.length + m →
    ∃ c' out', s_l1Cur_terms_L10 (((), ()), (c, out)) = some ((), (c', out')) ∧ out'.length ≤ out.length + m ∧ curOK (K + 2 * (m : Int) + 2) c' := by
  intro m
  induction m with
  | zero =>
    intro K c out h hK hm hl h12
    obtain ⟨c0, c1, c2⟩ := c
    obtain ⟨v, ⟨d0, d1, d2⟩, e, h0, h1, h2, hc⟩ := pick_ok 2 h (by omega)
    have h1 := h1 (by omega)
    have c9 : ¬ ((out.length : Int) < w64 (10 + v)) := by rw [w64_id (by omega) (by omega)]; omega
    refine ⟨_, out, ?_, Nat.le_refl _, hc.mono (by omega)⟩
    simp only [s_l1Cur_terms_L10]
    refine loopO_done ?_
    rw [s_l1Cur_terms_L10_step, T.run_sub, e, Option.bind_some, T.run_test, if_neg (by rw [decide_eq_true_eq]; exact c9), T.run_test, if_pos (by simp), T.run_ret]
  | succ m ih =>
    intro K c out h hK hm hl h12
    obtain ⟨c0, c1, c2⟩ := c
    obtain ⟨v, ⟨d0, d1, d2⟩, e, h0, h1, h2, hc⟩ := pick_ok 2 h (by omega)
    by_cases c9 : (out.length : Int) < w64 (10 + v)
    · have h1 := h1 (by omega)
      have c8 : out.length < 12 := by rw [w64_id (by omega) (by omega)] at c9; omega
      obtain ⟨c', out', e2, h3, h4⟩ := ih (K + 2) (d0, d1, d2) (out ++ [2]) hc (by omega) (by omega) (by simp; omega) (by simp; omega)
      refine ⟨c', out', ?_, by simp at h3; omega, h4.mono (by omega)⟩
      have hlen : 2 * ((out.length + 1) * 9) ≤ 140737488355328 := by omega
      simp only [s_l1Cur_terms_L10] at e2 ⊢
      rw [← e2]
      refine loopO_next ?_
      rw [s_l1Cur_terms_L10_step, T.run_sub, e, Option.bind_some, T.run_test, if_pos (decide_eq_true c9)]
      simp [T.run, win_all, win_one, win_sing, hlen]
    · refine ⟨_, out, ?_, by omega, hc.mono (by omega)⟩
      simp only [s_l1Cur_terms_L10]
      refine loopO_done ?_
      rw [s_l1Cur_terms_L10_step, T.run_sub, e, Option.bind_some, T.run_test, if_neg (by rw [decide_eq_true_eq]; exact c9), T.run_test, if_pos (by simp), T.run_ret]
theorem terms_L13 (c : List Int × Int × Int) : ∀ (m : Nat) (out : List Int), m ≤ 100 → out.length ≤ 100 → 12 ≤ out.length + m →
    ∃ out', s_l1Cur_terms_L13 ((), (c, out)) = some ((), (c, out')) ∧ out'.length ≤ out.length + m := by
  intro m
  induction m with
  | zero =>
    intro out hm hl h12
    obtain ⟨c0, c1, c2⟩ := c
    have c9 : ¬ ((out.length : Int) < 10) := by omega
    refine ⟨out, ?_, Nat.le_refl _⟩
    simp only [s_l1Cur_terms_L13]
    exact loopO_done (by simp [s_l1Cur_terms_L13_step, T.run, c9])
  | succ m ih =>
    intro out hm hl h12
    obtain ⟨c0, c1, c2⟩ := c
    by_cases c9 : (out.length : Int) < 10
    · obtain ⟨out', e2, h3⟩ := ih (out ++ [30]) (by omega) (by simp; omega) (by simp; omega)
      refine ⟨out', ?_, by simp at h3; omega⟩
      have hlen : 2 * ((out.length + 1) * 9) ≤ 140737488355328 := by omega
      simp only [s_l1Cur_terms_L13] at e2 ⊢
      rw [← e2]
      refine loopO_next ?_
      rw [s_l1Cur_terms_L13_step, T.run_test, if_pos (decide_eq_true c9)]
      simp [T.run, win_all, win_one, win_sing, hlen]
    · refine ⟨out, ?_, by omega⟩
      simp only [s_l1Cur_terms_L13]
      exact loopO_done (by simp [s_l1Cur_terms_L13_step, T.run, c9])
theorem terms_ok {k : Int} {c : List Int × Int × Int} (low high : Int) (hlo : -100 ≤ low ∧ low ≤ 100) (hhi : -100 ≤ high ∧ high ≤ 100) (h : curOK k c) (hk : k < 1000000000000) :
    ∃ c' l, s_l1Cur_terms (((), (low, high)), c) = some ((), (c', l)) ∧ l.length ≤ 50 ∧ curOK (k + 100) c' := by
  obtain ⟨c0, c1, c2⟩ := c
  obtain ⟨v, ⟨d0, d1, d2⟩, e, h0, h1, _, hc⟩ := pick_ok 8 h (by omega)
  have h1 := h1 (by omega)
  obtain ⟨m, rfl⟩ := Int.eq_ofNat_of_zero_le h0
  obtain ⟨⟨f0, f1, f2⟩, out, e3, h3, hc3⟩ := terms_L3 low high hlo hhi m (k + 2) (d0, d1, d2) [] hc (by omega) (by omega) (by simp; omega)
  simp only [List.length_nil] at h3
  obtain ⟨u, ⟨g0, g1, g2⟩, e4, h4, h5, _, hc4⟩ := pick_ok 14 hc3 (by omega)
  rw [s_l1Cur_terms, s_l1Cur_terms_t, T.run_sub, e, Option.bind_some, T.run_test, if_pos (by simp), T.run_sub, e3, Option.bind_some, T.run_sub, e4, Option.bind_some, T.run_test]
  have hlen : 2 * ((out.length + 1) * 9) ≤ 140737488355328 := by omega
  by_cases u0 : u = 0
  · obtain ⟨x, ⟨a0, a1, a2⟩, e5, _, hc5⟩ := among_ok [30, 31, -30, -9223372036854775808] hc4 (by omega) (by simp)
    have hw : win (List.set (List.set (List.set (List.set (List.replicate 4 (0 : Int)) 0 (30 : Int)) 1 (31 : Int)) 2 (-30)) 3 (-9223372036854775808)) 0 4 = [30, 31, -30, -9223372036854775808] := rfl
    rw [if_pos (by rw [u0]; rfl), T.run_test, if_pos rfl, T.run_sub, hw, e5, Option.bind_some]
    refine ⟨_, out ++ [x], ?_, by simp; omega, hc5.mono (by omega)⟩
    simp [T.run, win_all, win_one, win_sing, hlen]
  · rw [if_neg (by rw [beq_iff_eq]; exact u0), T.run_test]
    by_cases u1 : u = 1
    · obtain ⟨⟨a0, a1, a2⟩, out', e5, h6, hc5⟩ := terms_L10 12 _ (g0, g1, g2) out hc4 (by omega) (by omega) (by omega) (by omega)
      rw [if_pos (by rw [u1]; rfl), T.run_test, if_pos (by simp), T.run_sub, e5, Option.bind_some, T.run_test, if_pos (by simp), T.run_ret]
      exact ⟨_, out', rfl, by omega, hc5.mono (by omega)⟩
    · rw [if_neg (by rw [beq_iff_eq]; exact u1), T.run_test]
      by_cases u2 : u = 2
      · obtain ⟨out', e5, h6⟩ := terms_L13 (g0, g1, g2) 12 out (by omega) (by omega) (by omega)
        rw [if_pos (by rw [u2]; rfl), T.run_test, if_pos (by simp), T.run_sub, e5, Option.bind_some, T.run_test, if_pos (by simp), T.run_ret]
        exact ⟨_, out', rfl, by omega, hc4.mono (by omega)⟩
      · rw [if_neg (by rw [beq_iff_eq]; exact u2), T.run_test, if_pos (by simp), T.run_ret]
        exact ⟨_, out, rfl, by omega, hc4.mono (by omega)⟩


def s_l1Cur_matrix_sh : FSh := ⟨[(.one (.pf 0 0 0))], [(.rcd 0 [(.sl (.int .u8) false true), (.si .i64), (.si .u64)])]⟩

def s_l1Cur_matrix_fo : List FO := [⟨[(.ag [(.si .i64), (.si .i64), (.si .i64), (.si .i64)])], [(.rcd 0 [(.sl (.int .u8) false true), (.si .i64), (.si .u64)])]⟩]
noncomputable def s_l1Cur_matrix_t : (Unit × (List (Int) × Int × Int)) → T ((Int × Int × Int × Int) × (List (Int) × Int × Int)) := fun ((), (c_0, c_1, c_2)) =>
  (.sub (s_l1Cur_pick (((), (10 : Int)), (c_0, (c_1, c_2)))) fun z0 =>
  (.test (z0.1 == 0)
  (.test true
   (.sub (s_l1Cur_among (((), (win (List.set (List.set (List.set (List.set (List.replicate 4 (0 : Int)) 0 (1 : Int)) 1 (-1)) 2 (0 : Int)) 3 (4611686018427387904 : Int)) 0 4)), (z0.2.1, (z0.2.2.1, z0.2.2.2)))) fun z1 =>
    (.test true
    (.sub (s_l1Cur_among (((), (win (List.set (List.set (List.set (List.set (List.replicate 4 (0 : Int)) 0 (0 : Int)) 1 (1 : Int)) 2 (1000000000 : Int)) 3 (1000000001 : Int)) 0 4)), (z1.2.1, (z1.2.2.1, z1.2.2.2)))) fun z2 =>
     (.test true
     (.sub (s_l1Cur_among (((), (win (List.set (List.set (List.replicate 2 (0 : Int)) 0 (0 : Int)) 1 (-1)) 0 2)), (z2.2.1, (z2.2.2.1, z2.2.2.2)))) fun z3 =>
      (.test true
      (.sub (s_l1Cur_among (((), (win (List.set (List.set (List.set (List.replicate 3 (0 : Int)) 0 (1 : Int)) 1 (-1)) 2 (0 : Int)) 0 3)), (z3.2.1, (z3.2.2.1, z3.2.2.2)))) fun z4 =>
       (.ret ((z1.1, (z2.1, (z3.1, z4.1))), (z4.2.1, (z4.2.2.1, z4.2.2.2)))))
      .fail))
     .fail))
    .fail))
   .fail)
  (.test (z0.1 == 1)
   (.sub (s_l1Cur_word ((), (z0.2.1, (z0.2.2.1, z0.2.2.2)))) fun z5 =>
    (.sub (s_MatrixOfWord z5.1) fun z6 =>
    (.ret ((z6.1.1, (z6.1.2.1, (z6.1.2.2.1, z6.1.2.2.2))), (z5.2.1, (z5.2.2.1, z5.2.2.2))))))
   (.test (z0.1 == 2)
    (.sub (s_l1Cur_word ((), (z0.2.1, (z0.2.2.1, z0.2.2.2)))) fun z7 =>
     (.sub (s_MatrixOfWord z7.1) fun z8 =>
     (.ret ((z8.1.1, (z8.1.2.1, (z8.1.2.2.1, z8.1.2.2.2))), (z7.2.1, (z7.2.2.1, z7.2.2.2))))))
    (.test (z0.1 == 3)
     (.sub (s_l1Cur_word ((), (z0.2.1, (z0.2.2.1, z0.2.2.2)))) fun z9 =>
      (.sub (s_MatrixOfWord z9.1) fun z10 =>
      (.ret ((z10.1.1, (z10.1.2.1, (z10.1.2.2.1, z10.1.2.2.2))), (z9.2.1, (z9.2.2.1, z9.2.2.2))))))
     (.test (z0.1 == 4)
      (.sub (s_l1Cur_pick (((), (6 : Int)), (z0.2.1, (z0.2.2.1, z0.2.2.2)))) fun z11 =>
       (.test (decide ((0 ≤ z11.1) ∧ (z11.1 < 6)))
       (.sub ((List.set (List.set (List.set (List.set (List.set (List.set (List.replicate 6 ((0 : Int), ((0 : Int), ((0 : Int), (0 : Int))))) 0 ((1 : Int), ((0 : Int), ((0 : Int), (1 : Int))))) 1 ((-1), ((0 : Int), ((0 : Int), (-1))))) 2 ((0 : Int), ((-1), ((1 : Int), (0 : Int))))) 3 ((1 : Int), ((-1), ((1 : Int), (0 : Int))))) 4 ((0 : Int), ((-1), ((1 : Int), (-1))))) 5 ((1 : Int), ((5 : Int), ((0 : Int), (1 : Int)))))[(0 + (Int.toNat z11.1))]?) fun z12 =>
        (.ret ((z12.1, (z12.2.1, (z12.2.2.1, z12.2.2.2))), (z11.2.1, (z11.2.2.1, z11.2.2.2)))))
       .fail))
      (.test (z0.1 == 5)
       (.ret (((1 : Int), ((1000000000 : Int), ((0 : Int), (1 : Int)))), (z0.2.1, (z0.2.2.1, z0.2.2.2))))
       (.sub (s_l1Cur_terms (((), ((-2), (4 : Int))), (z0.2.1, (z0.2.2.1, z0.2.2.2)))) fun z13 =>
        (.test (decide ((0 + (List.length z13.2.2)) ≤ (List.length z13.2.2)))
        (.sub (s_MatrixOfList (win z13.2.2 0 (List.length z13.2.2))) fun z14 =>
         (.ret ((z14.1.1, (z14.1.2.1, (z14.1.2.2.1, z14.1.2.2.2))), (z13.2.1.1, (z13.2.1.2.1, z13.2.1.2.2)))))
        .fail)))))))))
noncomputable def s_l1Cur_matrix (v : (Unit × (List (Int) × Int × Int))) : Option ((Int × Int × Int × Int) × (List (Int) × Int × Int)) := (s_l1Cur_matrix_t v).run
noncomputable def s_l1Cur_matrix_E : TEnv := ((((((E0.add1 n_s_l1Cur_pick s_l1Cur_pick_sh s_l1Cur_pick_fo s_l1Cur_pick).add1 n_s_l1Cur_among s_l1Cur_among_sh s_l1Cur_among_fo s_l1Cur_among).add1 n_s_l1Cur_word s_l1Cur_word_sh s_l1Cur_word_fo s_l1Cur_word).add1 n_s_MatrixOfWord s_MatrixOfWord_sh s_MatrixOfWord_fo s_MatrixOfWord).add1 n_s_l1Cur_terms s_l1Cur_terms_sh s_l1Cur_terms_fo s_l1Cur_terms).add1 n_s_MatrixOfList s_MatrixOfList_sh s_MatrixOfList_fo s_MatrixOfList)
theorem s_l1Cur_matrix_Eok : (s_l1Cur_matrix_E).OK := ((((((E0ok.add1 s_l1Cur_pick_ok).add1 s_l1Cur_among_ok).add1 s_l1Cur_word_ok).add1 s_MatrixOfWord_ok).add1 s_l1Cur_terms_ok).add1 s_MatrixOfList_ok)
noncomputable def s_l1Cur_matrix_told : Nat → Option SealT := fun id => none
theorem s_l1Cur_matrix_ok : FOK Tryd.prog n_s_l1Cur_matrix s_l1Cur_matrix_sh s_l1Cur_matrix_fo s_l1Cur_matrix :=
  fn_ok (E := s_l1Cur_matrix_E) (s_l1Cur_matrix_Eok) (told := s_l1Cur_matrix_told) (fl := []) (c := bodyOf fn_s_l1Cur_matrix) (s := s_l1Cur_matrix_sh) (l := s_l1Cur_matrix_fo) (tree := s_l1Cur_matrix_t) fnat_s_l1Cur_matrix (by kernel_rfl) (by kernel_rfl) (by kernel_rfl) (loopsOK_of (ls := []) (by kernel_rfl) trivial) (fun v => by kernel_rfl)

theorem matrix_ok {K : Int} {c : List Int × Int × Int} (h : curOK K c) (hK : K < 10000000) : ∃ m c', s_l1Cur_matrix ((), c) = some (m, c') ∧ curOK (K + 400) c' := by
  obtain ⟨c0, c1, c2⟩ := c
  obtain ⟨v, ⟨d0, d1, d2⟩, e, _, _, _, hc⟩ := pick_ok 10 h (by omega)
  rw [s_l1Cur_matrix, s_l1Cur_matrix_t, T.run_sub, e, Option.bind_some, T.run_test]
  have wd : ∃ m c', (T.sub (s_l1Cur_word ((), (d0, (d1, d2)))) fun z5 => (.sub (s_MatrixOfWord z5.1) fun z6 =>
    (.ret ((z6.1.1, (z6.1.2.1, (z6.1.2.2.1, z6.1.2.2.2))), (z5.2.1, (z5.2.2.1, z5.2.2.2)))))).run = some (m, c') ∧ curOK (K + 400) c' := by
    obtain ⟨w, ⟨f0, f1, f2⟩, e2, h2, hc2⟩ := word_ok hc (by omega)
    rw [T.run_sub, e2, Option.bind_some, T.run_sub, s_MatrixOfWord_eq w (by omega), Option.bind_some, T.run_ret]
    exact ⟨_, _, rfl, hc2.mono (by omega)⟩
  by_cases v0 : (v == 0) = true
  · have hw1 : (win (List.set (List.set (List.set (List.set (List.replicate 4 (0 : Int)) 0 (1 : Int)) 1 (-1)) 2 (0 : Int)) 3 (4611686018427387904 : Int)) 0 4) = [1, -1, 0, 4611686018427387904] := rfl
    have hw2 : (win (List.set (List.set (List.set (List.set (List.replicate 4 (0 : Int)) 0 (0 : Int)) 1 (1 : Int)) 2 (1000000000 : Int)) 3 (1000000001 : Int)) 0 4) = [0, 1, 1000000000, 1000000001] := rfl
    have hw3 : (win (List.set (List.set (List.replicate 2 (0 : Int)) 0 (0 : Int)) 1 (-1)) 0 2) = [0, -1] := rfl
    have hw4 : (win (List.set (List.set (List.set (List.replicate 3 (0 : Int)) 0 (1 : Int)) 1 (-1)) 2 (0 : Int)) 0 3) = [1, -1, 0] := rfl
    obtain ⟨x1, ⟨f0, f1, f2⟩, e1, _, hc1⟩ := among_ok [1, -1, 0, 4611686018427387904] hc (by omega) (by simp)
    obtain ⟨x2, ⟨g0, g1, g2⟩, e2, _, hc2⟩ := among_ok [0, 1, 1000000000, 1000000001] hc1 (by omega) (by simp)
    obtain ⟨x3, ⟨j0, j1, j2⟩, e3, _, hc3⟩ := among_ok [0, -1] hc2 (by omega) (by simp)
    obtain ⟨x4, ⟨k0, k1, k2⟩, e4, _, hc4⟩ := among_ok [1, -1, 0] hc3 (by omega) (by simp)
    rw [if_pos v0, T.run_test, if_pos rfl, T.run_sub, hw1, e1, Option.bind_some, T.run_test, if_pos rfl, T.run_sub, hw2, e2, Option.bind_some, T.run_test, if_pos rfl, T.run_sub, hw3, e3, Option.bind_some, T.run_test, if_pos rfl, T.run_sub, hw4, e4, Option.bind_some, T.run_ret]
    exact ⟨_, _, rfl, hc4.mono (by omega)⟩
  rw [if_neg v0, T.run_test]
  by_cases v1 : (v == 1) = true
  · rw [if_pos v1]; exact wd
  rw [if_neg v1, T.run_test]
  by_cases v2 : (v == 2) = true
  · rw [if_pos v2]; exact wd
  rw [if_neg v2, T.run_test]
  by_cases v3 : (v == 3) = true
  · rw [if_pos v3]; exact wd
  rw [if_neg v3, T.run_test]
  by_cases v4 : (v == 4) = true
  · obtain ⟨u, ⟨f0, f1, f2⟩, e1, u0, u1, _, hc1⟩ := pick_ok 6 hc (by omega)
    have u1 := u1 (by omega)
    rw [if_pos v4, T.run_sub, e1, Option.bind_some, T.run_test, if_pos (decide_eq_true (by omega)), T.run_sub]
    have hlt : (0 + u.toNat) < (List.set (List.set (List.set (List.set (List.set (List.set (List.replicate 6 ((0 : Int), ((0 : Int), ((0 : Int), (0 : Int))))) 0 ((1 : Int), ((0 : Int), ((0 : Int), (1 : Int))))) 1 ((-1), ((0 : Int), ((0 : Int), (-1))))) 2 ((0 : Int), ((-1), ((1 : Int), (0 : Int))))) 3 ((1 : Int), ((-1), ((1 : Int), (0 : Int))))) 4 ((0 : Int), ((-1), ((1 : Int), (-1))))) 5 ((1 : Int), ((5 : Int), ((0 : Int), (1 : Int))))).length := by
      simp only [List.length_set, List.length_replicate]; omega
    rw [List.getElem?_eq_getElem hlt, Option.bind_some, T.run_ret]
    exact ⟨_, _, rfl, hc1.mono (by omega)⟩
  rw [if_neg v4, T.run_test]
  by_cases v5 : (v == 5) = true
  · rw [if_pos v5, T.run_ret]
    exact ⟨_, _, rfl, hc.mono (by omega)⟩
  rw [if_neg v5]
  obtain ⟨⟨f0, f1, f2⟩, l, e2, hl, hc2⟩ := terms_ok (-2) 4 (by omega) (by omega) hc (by omega)
  rw [T.run_sub, e2, Option.bind_some, T.run_test, if_pos (by simp), T.run_sub, win_all, s_MatrixOfList_eq l (by omega), Option.bind_some, T.run_ret]
  exact ⟨_, _, rfl, hc2.mono (by omega)⟩


def s_DrawTimesMatrix_sh : FSh := ⟨[(.one (.sl (.int .u8) false true))], []⟩

def s_DrawTimesMatrix_fo : List FO := [⟨[(.ag [(.si .i64), (.si .i64), (.si .i64), (.si .i64)]), (.ag [(.si .i64), (.si .i64), (.si .i64), (.si .i64)])], []⟩]
noncomputable def s_DrawTimesMatrix_t : List (Int) → T ((Int × Int × Int × Int) × (Int × Int × Int × Int)) := fun code =>
  (.sub (s_l1Cur_matrix ((), (code, ((0 : Int), (0 : Int))))) fun z0 =>
  (.sub (s_l1Cur_matrix ((), (z0.2.1, (z0.2.2.1, z0.2.2.2)))) fun z1 =>
  (.ret ((z0.1.1, (z0.1.2.1, (z0.1.2.2.1, z0.1.2.2.2))), (z1.1.1, (z1.1.2.1, (z1.1.2.2.1, z1.1.2.2.2)))))))
noncomputable def s_DrawTimesMatrix (v : List (Int)) : Option ((Int × Int × Int × Int) × (Int × Int × Int × Int)) := (s_DrawTimesMatrix_t v).run
noncomputable def s_DrawTimesMatrix_E : TEnv := (E0.add1 n_s_l1Cur_matrix s_l1Cur_matrix_sh s_l1Cur_matrix_fo s_l1Cur_matrix)
theorem s_DrawTimesMatrix_Eok : (s_DrawTimesMatrix_E).OK := (E0ok.add1 s_l1Cur_matrix_ok)
noncomputable def s_DrawTimesMatrix_told : Nat → Option SealT := fun id => none
theorem s_DrawTimesMatrix_ok : FOK Tryd.prog n_s_DrawTimesMatrix s_DrawTimesMatrix_sh s_DrawTimesMatrix_fo s_DrawTimesMatrix :=
  fn_ok (E := s_DrawTimesMatrix_E) (s_DrawTimesMatrix_Eok) (told := s_DrawTimesMatrix_told) (fl := []) (c := bodyOf fn_s_DrawTimesMatrix) (s := s_DrawTimesMatrix_sh) (l := s_DrawTimesMatrix_fo) (tree := s_DrawTimesMatrix_t) fnat_s_DrawTimesMatrix (by kernel_rfl) (by kernel_rfl) (by kernel_rfl) (loopsOK_of (ls := []) (by kernel_rfl) trivial) (fun v => by kernel_rfl)

def i_within_sh : FSh := ⟨[(.one (.si .i64)), (.one (.si .i64)), (.one (.si .i64))], []⟩

def i_within_fo : List FO := [⟨[(.one .sb)], []⟩]
noncomputable def i_within_t : (Int × Int × Int) → T Bool := fun (n, low, high) =>
  (.test (decide (n ≥ low))
  (.ret (decide (n ≤ high)))
  (.ret false))
noncomputable def i_within (v : (Int × Int × Int)) : Option Bool := (i_within_t v).run
noncomputable def i_within_E : TEnv := E0
theorem i_within_Eok : (i_within_E).OK := E0ok
noncomputable def i_within_told : Nat → Option SealT := fun id => none
theorem i_within_ok : FOK Tryd.prog n_i_within i_within_sh i_within_fo i_within :=
  fn_ok (E := i_within_E) (i_within_Eok) (told := i_within_told) (fl := []) (c := bodyOf fn_i_within) (s := i_within_sh) (l := i_within_fo) (tree := i_within_t) fnat_i_within (by kernel_rfl) (by kernel_rfl) (by kernel_rfl) (loopsOK_of (ls := []) (by kernel_rfl) trivial) (fun v => by kernel_rfl)

theorem i_within_eq (n low high : Int) : i_within (n, low, high) = some (inB low high n) := by
  simp only [i_within, i_within_t, T.run, ge_iff_le, decide_eq_true_eq, inB]
  by_cases h : low ≤ n <;> simp [h]


def i_isEntry_sh : FSh := ⟨[(.one (.si .i64))], []⟩

def i_isEntry_fo : List FO := [⟨[(.one .sb)], []⟩]
noncomputable def i_isEntry_t : Int → T Bool := fun n =>
  (.sub (i_within (n, ((-1000000000), (1000000000 : Int)))) fun z0 =>
  (.ret z0))
noncomputable def i_isEntry (v : Int) : Option Bool := (i_isEntry_t v).run
noncomputable def i_isEntry_E : TEnv := (E0.add1 n_i_within i_within_sh i_within_fo i_within)
theorem i_isEntry_Eok : (i_isEntry_E).OK := (E0ok.add1 i_within_ok)
noncomputable def i_isEntry_told : Nat → Option SealT := fun id => none
theorem i_isEntry_ok : FOK Tryd.prog n_i_isEntry i_isEntry_sh i_isEntry_fo i_isEntry :=
  fn_ok (E := i_isEntry_E) (i_isEntry_Eok) (told := i_isEntry_told) (fl := []) (c := bodyOf fn_i_isEntry) (s := i_isEntry_sh) (l := i_isEntry_fo) (tree := i_isEntry_t) fnat_i_isEntry (by kernel_rfl) (by kernel_rfl) (by kernel_rfl) (loopsOK_of (ls := []) (by kernel_rfl) trivial) (fun v => by kernel_rfl)

theorem i_isEntry_eq (n : Int) : i_isEntry n = some (inB (-1000000000) 1000000000 n) := by
  simp only [i_isEntry, i_isEntry_t, T.run, i_within_eq, Option.bind_some]


def i_IsMatrix_sh : FSh := ⟨[(.ag [(.si .i64), (.si .i64), (.si .i64), (.si .i64)])], []⟩

def i_IsMatrix_fo : List FO := [⟨[(.one .sb)], []⟩]
noncomputable def i_IsMatrix_t : (Int × Int × Int × Int) → T Bool := fun (m_0, m_1, m_2, m_3) =>
  (.sub (i_isEntry m_0) fun z0 =>
  (.test z0
  (.sub (i_isEntry m_1) fun z1 =>
   (.test z1
   (.sub (i_isEntry m_2) fun z2 =>
    (.test z2
    (.sub (i_isEntry m_3) fun z3 =>
     (.test z3
     (.ret ((w64 ((w64 (m_0 * m_3)) - (w64 (m_1 * m_2)))) == 1))
     (.ret false)))
    (.ret false)))
   (.ret false)))
  (.ret false)))
noncomputable def i_IsMatrix (v : (Int × Int × Int × Int)) : Option Bool := (i_IsMatrix_t v).run
noncomputable def i_IsMatrix_E : TEnv := (E0.add1 n_i_isEntry i_isEntry_sh i_isEntry_fo i_isEntry)
theorem i_IsMatrix_Eok : (i_IsMatrix_E).OK := (E0ok.add1 i_isEntry_ok)
noncomputable def i_IsMatrix_told : Nat → Option SealT := fun id => none
theorem i_IsMatrix_ok : FOK Tryd.prog n_i_IsMatrix i_IsMatrix_sh i_IsMatrix_fo i_IsMatrix :=
  fn_ok (E := i_IsMatrix_E) (i_IsMatrix_Eok) (told := i_IsMatrix_told) (fl := []) (c := bodyOf fn_i_IsMatrix) (s := i_IsMatrix_sh) (l := i_IsMatrix_fo) (tree := i_IsMatrix_t) fnat_i_IsMatrix (by kernel_rfl) (by kernel_rfl) (by kernel_rfl) (loopsOK_of (ls := []) (by kernel_rfl) trivial) (fun v => by kernel_rfl)

theorem i_IsMatrix_eq (m : M4) : i_IsMatrix m = some (good4 m) := by
  obtain ⟨a, b, c, d⟩ := m
  simp only [i_IsMatrix, i_IsMatrix_t, T.run, i_isEntry_eq, Option.bind_some, good4]
  cases ha : inB (-1000000000) 1000000000 a <;> cases hb : inB (-1000000000) 1000000000 b <;> cases hc : inB (-1000000000) 1000000000 c <;> cases hd : inB (-1000000000) 1000000000 d <;> simp
  rw [inB_iff] at ha hb hc hd
  rw [det_w ha hb hc hd, beq_int]


end Go.Proofs.W
