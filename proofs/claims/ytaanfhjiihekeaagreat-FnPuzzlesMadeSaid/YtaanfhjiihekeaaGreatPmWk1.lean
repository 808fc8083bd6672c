/- Functions of the program, walked, and what they compute. -/
import Derived.Test.YtaanfhjiihekeaaGreatPmIds
set_option linter.unusedVariables false
set_option linter.unusedSimpArgs false
set_option maxRecDepth 100000
set_option maxHeartbeats 4000000
namespace Go.Proofs.W
open Go Go.Gm Go.Proofs
open Go.RowKit Go.Shelf
def upQ (num den : Int) : Int := (num + den - 1) / den
theorem isPz_len {l : List Int} (h : isPz l = true) : 3 ≤ l.length ∧ l.length ≤ 9 := by
  simp only [isPz, Bool.and_eq_true, inB_iff] at h
  omega
def fillG (l : List Int) (at' n : Int) : Bool × List Int := if isPz l && (inB 0 ((l.length : Int) - 1) at' && (inB 1 ((l.length : Int) - 2) n && decide (l[at'.toNat]? = some 0))) then (true, l.set at'.toNat n) else (false, [])
def openG (l : List Int) (at' : Int) : Bool × List Int := if isPz l && (inB 0 ((l.length : Int) - 1) at' && decide (l[at'.toNat]? ≠ some 0)) then (true, l.set at'.toNat 0) else (false, [])
def fits (p q : List Int) : Bool := decide (p.length = q.length) && !(p.zip q).any fun x => !(x.1 == 0 || x.1 == x.2)
def turnG (l : List Int) (k : Int) : Bool × List Int := if isPz l && inB 0 ((l.length : Int) - 1) k then (true, l.drop k.toNat ++ l.take k.toNat) else (false, [])
theorem turn_facts {l : List Int} {k : Int} (hp : isPz l = true) (hk : inB 0 ((l.length : Int) - 1) k = true) : win l k.toNat (l.length - k.toNat) = l.drop k.toNat ∧ win l 0 (k.toNat - 0) = l.take k.toNat ∧ 0 ≤ k ∧ k.toNat ≤ l.length ∧ l.length ≤ 9 := by
  have := isPz_len hp
  rw [inB_iff] at hk
  refine ⟨?_, win_take _ _, hk.1, by omega, this.2⟩
  unfold win
  rw [List.take_of_length_le (by rw [List.length_drop]; omega)]
def F121_sh : FSh := ⟨[(.one (.sl (.int .u8) false false)), (.one (.sl (.int .u8) false false))], []⟩

def F121_fo : List FO := [⟨[(.one .sb)], []⟩]
noncomputable def F121_t : (List (Int) × List (Int)) → T Bool := fun (code, more) =>
 (.test (decide (((List.length code) : Int) > 1048576))
 (.ret true)
 (.ret (decide (((List.length more) : Int) > (w64 (1048576 - ((List.length code) : Int)))))))
noncomputable def F121 (v : (List (Int) × List (Int))) : Option Bool := (F121_t v).run
noncomputable def F121_E : TEnv := E0
theorem F121_Eok : (F121_E).OK := E0ok
noncomputable def F121_told : Nat → Option SealT := fun id => none
theorem F121_ok : FOK Tryz.prog n_F121 F121_sh F121_fo F121 :=
  fn_ok (E := F121_E) (F121_Eok) (told := F121_told) (fl := []) (c := bodyOf fn_F121) (s := F121_sh) (l := F121_fo) (tree := F121_t) fnat_F121 (by kernel_rfl) (by kernel_rfl) (by kernel_rfl) (loopsOK_of (ls := []) (by kernel_rfl) trivial) (fun v => by kernel_rfl)

def F67_sh : FSh := ⟨[(.one (.pf 0 0 0))], [(.rcd 0 [(.sl (.int .u8) false true), (.si .i64), (.si .u64)])]⟩

def F67_fo : List FO := [⟨[(.one (.si .i64))], [(.rcd 0 [(.sl (.int .u8) false true), (.si .i64), (.si .u64)])]⟩]
noncomputable def F67_t : (Unit × (List (Int) × Int × Int)) → T (Int × (List (Int) × Int × Int)) := fun ((), (c_0, c_1, c_2)) =>
 (.test (decide (c_1 < ((List.length c_0) : Int)))
 (.test (decide ((0 ≤ c_1) ∧ (c_1 < ((List.length c_0) : Int))))
 (.sub (c_0[(Int.toNat c_1)]?) fun z0 =>
 (.test (decide ((w64 (c_1 + 1)) ≤ ((List.length c_0) : Int)))
 (.ret ((w64 z0), (c_0, ((w64 (c_1 + 1)), (wu64 ((wu64 ((wu64 (c_2 * 6364136223846793005)) + (wu64 (w64 z0)))) + 1442695040888963407))))))
 (.ret ((w64 (wu64 (((Int.toNat ((Int.rec
 (fun a =>
 (fun a =>
 Nat.casesOn a ((fun x => 0) (2 ^ min (Int.toNat 40) IntKind.u64.bits)) fun n =>
 Int.casesOn (2 ^ min (Int.toNat 40) IntKind.u64.bits) (fun a => (fun m n => Int.ofNat (m / n)) n.succ a)
 fun a => (fun m n => Int.negSucc (m / n.succ)) n a)
 a)
 (fun a =>
 (fun a =>
 Int.casesOn (2 ^ min (Int.toNat 40) IntKind.u64.bits)
 (fun a_1 => Nat.casesOn a_1 ((fun a => 0) a) fun n => (fun m n => Int.negSucc (m / n.succ)) a n) fun a_1 =>
 (fun m n => Int.ofNat (m.succ / n.succ)) a a_1)
 a)
 (IntKind.u64.wrap
 (IntKind.u64.wrap
 (IntKind.u64.wrap (c_2 * Int.ofNat 6364136223846793005) + IntKind.u64.wrap (IntKind.i64.wrap z0)) +
 Int.ofNat 1442695040888963407))) % 18446744073709551616)) &&& 255 : Nat) : Int))), (c_0, ((w64 (c_1 + 1)), (wu64 ((wu64 ((wu64 (c_2 * 6364136223846793005)) + (wu64 (w64 z0)))) + 1442695040888963407))))))))
 .fail)
 (.test (decide ((w64 (c_1 + 1)) ≤ ((List.length c_0) : Int)))
 (.ret ((0 : Int), (c_0, ((w64 (c_1 + 1)), (wu64 ((wu64 ((wu64 (c_2 * 6364136223846793005)) + 0)) + 1442695040888963407))))))
 (.ret ((w64 (wu64 (((Int.toNat ((Int.rec
 (fun a =>
 (fun a =>
 Nat.casesOn a ((fun x => 0) (2 ^ min (Int.toNat 40) IntKind.u64.bits)) fun n =>
 Int.casesOn (2 ^ min (Int.toNat 40) IntKind.u64.bits) (fun a => (fun m n => Int.ofNat (m / n)) n.succ a)
 fun a => (fun m n => Int.negSucc (m / n.succ)) n a)
 a)
 (fun a =>
 (fun a =>
 Int.casesOn (2 ^ min (Int.toNat 40) IntKind.u64.bits)
 (fun a_1 => Nat.casesOn a_1 ((fun a => 0) a) fun n => (fun m n => Int.negSucc (m / n.succ)) a n) fun a_1 =>
 (fun m n => Int.ofNat (m.succ / n.succ)) a a_1)
 a)
 (IntKind.u64.wrap
 (IntKind.u64.wrap (IntKind.u64.wrap (c_2 * Int.ofNat 6364136223846793005) + Int.ofNat 0) +
 Int.ofNat 1442695040888963407))) % 18446744073709551616)) &&& 255 : Nat) : Int))), (c_0, ((w64 (c_1 + 1)), (wu64 ((wu64 ((wu64 (c_2 * 6364136223846793005)) + 0)) + 1442695040888963407))))))))
noncomputable def F67 (v : (Unit × (List (Int) × Int × Int))) : Option (Int × (List (Int) × Int × Int)) := (F67_t v).run
noncomputable def F67_E : TEnv := E0
theorem F67_Eok : (F67_E).OK := E0ok
noncomputable def F67_told : Nat → Option SealT := fun id => none
theorem F67_ok : FOK Tryz.prog n_F67 F67_sh F67_fo F67 :=
  fn_ok (E := F67_E) (F67_Eok) (told := F67_told) (fl := []) (c := bodyOf fn_F67) (s := F67_sh) (l := F67_fo) (tree := F67_t) fnat_F67 (by kernel_rfl) (by kernel_rfl) (by kernel_rfl) (loopsOK_of (ls := []) (by kernel_rfl) trivial) (fun v => by kernel_rfl)

def F68_sh : FSh := ⟨[(.one (.pf 0 0 0)), (.one (.si .i64))], [(.rcd 0 [(.sl (.int .u8) false true), (.si .i64), (.si .u64)])]⟩

def F68_fo : List FO := [⟨[(.one (.si .i64))], [(.rcd 0 [(.sl (.int .u8) false true), (.si .i64), (.si .u64)])]⟩]
noncomputable def F68_t : ((Unit × Int) × (List (Int) × Int × Int)) → T (Int × (List (Int) × Int × Int)) := fun (((), n), (c_0, c_1, c_2)) =>
 (.test (decide (n ≤ 1))
 (.ret ((0 : Int), (c_0, (c_1, c_2))))
 (.sub (F67 ((), (c_0, (c_1, c_2)))) fun z0 =>
 (.test (decide (n > 200))
 (.sub (F67 ((), (z0.2.1, (z0.2.2.1, z0.2.2.2)))) fun z1 =>
 (.test (decide (n ≠ 0))
 (.ret ((Int.tmod (w64 ((w64 (z0.1 * 256)) + z1.1)) n), (z1.2.1, (z1.2.2.1, z1.2.2.2))))
 .fail))
 (.test (decide (n ≠ 0))
 (.ret ((Int.tmod z0.1 n), (z0.2.1, (z0.2.2.1, z0.2.2.2))))
 .fail))))
noncomputable def F68 (v : ((Unit × Int) × (List (Int) × Int × Int))) : Option (Int × (List (Int) × Int × Int)) := (F68_t v).run
noncomputable def F68_E : TEnv := (E0.add1 n_F67 F67_sh F67_fo F67)
theorem F68_Eok : (F68_E).OK := (E0ok.add1 F67_ok)
noncomputable def F68_told : Nat → Option SealT := fun id => none
theorem F68_ok : FOK Tryz.prog n_F68 F68_sh F68_fo F68 :=
  fn_ok (E := F68_E) (F68_Eok) (told := F68_told) (fl := []) (c := bodyOf fn_F68) (s := F68_sh) (l := F68_fo) (tree := F68_t) fnat_F68 (by kernel_rfl) (by kernel_rfl) (by kernel_rfl) (loopsOK_of (ls := []) (by kernel_rfl) trivial) (fun v => by kernel_rfl)

def F60_sh : FSh := ⟨[(.one (.pf 0 0 0)), (.one (.sl (.int .i64) false false))], [(.rcd 0 [(.sl (.int .u8) false true), (.si .i64), (.si .u64)])]⟩

def F60_fo : List FO := [⟨[(.one (.si .i64))], [(.rcd 0 [(.sl (.int .u8) false true), (.si .i64), (.si .u64)])]⟩]
noncomputable def F60_t : ((Unit × List (Int)) × (List (Int) × Int × Int)) → T (Int × (List (Int) × Int × Int)) := fun (((), list), (c_0, c_1, c_2)) =>
 (.sub (F68 (((), ((List.length list) : Int)), (c_0, (c_1, c_2)))) fun z0 =>
 (.test (decide ((0 ≤ z0.1) ∧ (z0.1 < ((List.length list) : Int))))
 (.sub (list[(Int.toNat z0.1)]?) fun z1 =>
 (.ret (z1, (z0.2.1, (z0.2.2.1, z0.2.2.2)))))
 .fail))
noncomputable def F60 (v : ((Unit × List (Int)) × (List (Int) × Int × Int))) : Option (Int × (List (Int) × Int × Int)) := (F60_t v).run
noncomputable def F60_E : TEnv := (E0.add1 n_F68 F68_sh F68_fo F68)
theorem F60_Eok : (F60_E).OK := (E0ok.add1 F68_ok)
noncomputable def F60_told : Nat → Option SealT := fun id => none
theorem F60_ok : FOK Tryz.prog n_F60 F60_sh F60_fo F60 :=
  fn_ok (E := F60_E) (F60_Eok) (told := F60_told) (fl := []) (c := bodyOf fn_F60) (s := F60_sh) (l := F60_fo) (tree := F60_t) fnat_F60 (by kernel_rfl) (by kernel_rfl) (by kernel_rfl) (loopsOK_of (ls := []) (by kernel_rfl) trivial) (fun v => by kernel_rfl)

def F42_sh : FSh := ⟨[(.one (.sl (.int .u8) false true))], []⟩

def F42_fo : List FO := [⟨[(.one (.si .i64)), (.one (.si .i64)), (.one (.si .i64))], []⟩]
noncomputable def F42_t : List (Int) → T (Int × Int × Int) := fun code =>
 (.test true
 (.sub (F60 (((), (win (List.set (List.set (List.set (List.set (List.set (List.set (List.set (List.set (List.replicate 8 (0 : Int)) 0 (3 : Int)) 1 (4 : Int)) 2 (5 : Int)) 3 (6 : Int)) 4 (7 : Int)) 5 (9 : Int)) 6 (10 : Int)) 7 (2 : Int)) 0 8)), (code, ((0 : Int), (0 : Int))))) fun z0 =>
 (.test (decide (7 ≤ (List.length (List.set (List.set (List.set (List.set (List.set (List.set (List.set (List.replicate 7 (0 : Int)) 0 (0 : Int)) 1 (1 : Int)) 2 (2 : Int)) 3 (3 : Int)) 4 z0.1) 5 (w64 (z0.1 + 1))) 6 (-1)))))
 (.sub (F60 (((), (win (List.set (List.set (List.set (List.set (List.set (List.set (List.set (List.replicate 7 (0 : Int)) 0 (0 : Int)) 1 (1 : Int)) 2 (2 : Int)) 3 (3 : Int)) 4 z0.1) 5 (w64 (z0.1 + 1))) 6 (-1)) 0 7)), (z0.2.1, (z0.2.2.1, z0.2.2.2)))) fun z1 =>
 (.sub (F68 (((), (10000 : Int)), (z1.2.1, (z1.2.2.1, z1.2.2.2)))) fun z2 =>
 (.sub (F68 (((), (10000 : Int)), (z2.2.1, (z2.2.2.1, z2.2.2.2)))) fun z3 =>
 (.test (decide (7 ≤ (List.length (List.set (List.set (List.set (List.set (List.set (List.set (List.set (List.replicate 7 (0 : Int)) 0 (0 : Int)) 1 (1 : Int)) 2 (9999 : Int)) 3 (10000 : Int)) 4 (-1)) 5 z2.1) 6 z3.1))))
 (.sub (F60 (((), (win (List.set (List.set (List.set (List.set (List.set (List.set (List.set (List.replicate 7 (0 : Int)) 0 (0 : Int)) 1 (1 : Int)) 2 (9999 : Int)) 3 (10000 : Int)) 4 (-1)) 5 z2.1) 6 z3.1) 0 7)), (z3.2.1, (z3.2.2.1, z3.2.2.2)))) fun z4 =>
 (.ret (z0.1, (z1.1, z4.1))))
 .fail))))
 .fail))
 .fail)
noncomputable def F42 (v : List (Int)) : Option (Int × Int × Int) := (F42_t v).run
noncomputable def F42_E : TEnv := ((E0.add1 n_F60 F60_sh F60_fo F60).add1 n_F68 F68_sh F68_fo F68)
theorem F42_Eok : (F42_E).OK := ((E0ok.add1 F60_ok).add1 F68_ok)
noncomputable def F42_told : Nat → Option SealT := fun id => none
theorem F42_ok : FOK Tryz.prog n_F42 F42_sh F42_fo F42 :=
  fn_ok (E := F42_E) (F42_Eok) (told := F42_told) (fl := []) (c := bodyOf fn_F42) (s := F42_sh) (l := F42_fo) (tree := F42_t) fnat_F42 (by kernel_rfl) (by kernel_rfl) (by kernel_rfl) (loopsOK_of (ls := []) (by kernel_rfl) trivial) (fun v => by kernel_rfl)

def F98_sh : FSh := ⟨[(.one (.si .i64)), (.one (.si .i64)), (.one (.si .i64))], []⟩

def F98_fo : List FO := [⟨[(.one .sb)], []⟩]
noncomputable def F98_t : (Int × Int × Int) → T Bool := fun (n, low, high) =>
 (.test (decide (n ≥ low))
 (.ret (decide (n ≤ high)))
 (.ret false))
noncomputable def F98 (v : (Int × Int × Int)) : Option Bool := (F98_t v).run
noncomputable def F98_E : TEnv := E0
theorem F98_Eok : (F98_E).OK := E0ok
noncomputable def F98_told : Nat → Option SealT := fun id => none
theorem F98_ok : FOK Tryz.prog n_F98 F98_sh F98_fo F98 :=
  fn_ok (E := F98_E) (F98_Eok) (told := F98_told) (fl := []) (c := bodyOf fn_F98) (s := F98_sh) (l := F98_fo) (tree := F98_t) fnat_F98 (by kernel_rfl) (by kernel_rfl) (by kernel_rfl) (loopsOK_of (ls := []) (by kernel_rfl) trivial) (fun v => by kernel_rfl)

theorem F98_eq (n low high : Int) : F98 (n, low, high) = some (inB low high n) := by
  simp only [F98, F98_t, T.run, ge_iff_le, decide_eq_true_eq, inB]
  by_cases h : low ≤ n <;> simp [h]



abbrev Dg := Int × Int
def nbB (n i : Nat) : Nat := (i + n - 1) % n
def nbC (n i : Nat) : Nat := (i + 1) % n
def decAt (l : List Int) (p : Nat) : List Int := l.set p (w64 (l.getD p 0 - 1))
def cutL (l : List Int) (i : Nat) : List Int := (decAt (decAt l (nbB l.length i)) (nbC l.length i)).eraseIdx i
def cutD (names : List Int) (i : Nat) : Dg :=
  (min (names.getD (nbB names.length i) 0) (names.getD (nbC names.length i) 0), max (names.getD (nbB names.length i) 0) (names.getD (nbC names.length i) 0))
def ear (l : List Int) : Option Nat := l.findIdx? (fun x => (1 : Int) == x)
def okC (l : List Int) (i : Nat) : Bool := decide (1 ≤ w64 (l.getD (nbB l.length i) 0 - 1) ∧ 1 ≤ w64 (l.getD (nbC l.length i) 0 - 1))
def tri : Nat → List Int → List Int → Option (List Dg)
  | 0, l, _ => if l = [1, 1, 1] then some [] else none
  | k + 1, l, names => match ear l with
    | none => none
    | some i => (tri k (cutL l i) (names.eraseIdx i)).map (cutD names i :: ·)
def triS : Nat → List Int → List Int → Option (List Dg)
  | 0, l, _ => if l = [1, 1, 1] then some [] else none
  | k + 1, l, names => match ear l with
    | none => none
    | some i => if okC l i then (triS k (cutL l i) (names.eraseIdx i)).map (cutD names i :: ·) else none
def cntD (d : Dg) (m : Int) : Int := (if d.1 = m then 1 else 0) + (if d.2 = m then 1 else 0)
def cnt (ds : List Dg) (m : Int) : Int := ds.foldr (fun d s => cntD d m + s) 0
def crossD (d e : Dg) : Bool := (decide (d.1 < e.1) && decide (e.1 < d.2) && decide (d.2 < e.2)) || (decide (e.1 < d.1) && decide (d.1 < e.2) && decide (e.2 < d.2))
def Ends (names : List Int) (d : Dg) : Prop := d.1 ∈ names ∧ d.2 ∈ names ∧ d.1 < d.2 ∧ (∃ m ∈ names, d.1 < m ∧ m < d.2) ∧ (∃ m ∈ names, m < d.1 ∨ d.2 < m)
def Apart (d e : Dg) : Prop := d ≠ e ∧ crossD d e = false
def Good (names : List Int) (ds : List Dg) : Prop := (∀ d ∈ ds, Ends names d) ∧ ds.Pairwise Apart
theorem nb_facts {n i : Nat} (hn : 3 ≤ n) (hi : i < n) : nbB n i < n ∧ nbC n i < n ∧ nbB n i ≠ i ∧ nbC n i ≠ i ∧ nbB n i ≠ nbC n i ∧
    ((i = 0 ∧ nbB n i = n - 1 ∧ nbC n i = 1) ∨ (i = n - 1 ∧ nbB n i = n - 2 ∧ nbC n i = 0) ∨ (0 < i ∧ i < n - 1 ∧ nbB n i = i - 1 ∧ nbC n i = i + 1)) := by
  unfold nbB nbC
  by_cases h0 : i = 0
  · subst h0
    rw [Nat.mod_eq_of_lt (by omega), Nat.mod_eq_of_lt (by omega)]
    omega
  · rw [show i + n - 1 = (i - 1) + n by omega, Nat.add_mod_right, Nat.mod_eq_of_lt (by omega)]
    by_cases h1 : i = n - 1
    · subst h1
      rw [show n - 1 + 1 = n by omega, Nat.mod_self]
      omega
    · rw [Nat.mod_eq_of_lt (by omega)]
      omega
theorem ear_lt {l : List Int} {i : Nat} (h : ear l = some i) : i < l.length ∧ l[i]? = some 1 := by
  obtain ⟨h1, h2, _⟩ := List.findIdx?_eq_some_iff_getElem.1 h
  refine ⟨h1, ?_⟩
  rw [List.getElem?_eq_getElem h1]
  simp at h2
  rw [← h2]
theorem decAt_length (l : List Int) (p : Nat) : (decAt l p).length = l.length := by simp [decAt]
theorem cutL_length {l : List Int} {i : Nat} (h : i < l.length) : (cutL l i).length = l.length - 1 := by
  unfold cutL
  rw [List.length_eraseIdx, decAt_length, decAt_length, if_pos h]
def cutV (l : List Int) (i p : Nat) : Int := if p = nbB l.length i ∨ p = nbC l.length i then w64 (l.getD p 0 - 1) else l.getD p 0
theorem dec2_get {l : List Int} {i p : Nat} (hn : 3 ≤ l.length) (hi : i < l.length) (hp : p < l.length) :
    (decAt (decAt l (nbB l.length i)) (nbC l.length i))[p]? = some (cutV l i p) := by
  obtain ⟨h1, h2, h3, h4, h5, _⟩ := nb_facts hn hi
  unfold decAt cutV
  by_cases e1 : nbC l.length i = p
  · subst e1
    rw [List.getElem?_set_self (by simpa using h2), if_pos (.inr rfl)]
    simp only [List.getD_eq_getElem?_getD, List.getElem?_set_ne h5]
  · rw [List.getElem?_set_ne e1]
    by_cases e2 : nbB l.length i = p
    · subst e2
      rw [List.getElem?_set_self h1, if_pos (.inl rfl)]
    · rw [List.getElem?_set_ne e2, if_neg (by omega), List.getD_eq_getElem?_getD, List.getElem?_eq_getElem hp]
      rfl
theorem cutL_get {l : List Int} {i p : Nat} (hn : 3 ≤ l.length) (hi : i < l.length) (hp : p < l.length) (hpi : p ≠ i) :
    (cutL l i)[if p < i then p else p - 1]? = some (cutV l i p) := by
  unfold cutL
  rw [List.getElem?_eraseIdx]
  by_cases h : p < i
  · simp only [h, if_true]
    exact dec2_get hn hi hp
  · simp only [h, if_false]
    rw [if_neg (by omega), show p - 1 + 1 = p by omega]
    exact dec2_get hn hi hp
theorem erase_get {X : Type} {names : List X} {i p : Nat} (hpi : p ≠ i) : (names.eraseIdx i)[if p < i then p else p - 1]? = names[p]? := by
  rw [List.getElem?_eraseIdx]
  by_cases h : p < i
  · simp [h]
  · simp only [h, if_false]
    rw [if_neg (by omega), show p - 1 + 1 = p by omega]
theorem erase_mem {X : Type} {names : List X} {i : Nat} {m : X} (h : m ∈ names.eraseIdx i) : ∃ p, p ≠ i ∧ names[p]? = some m := by
  obtain ⟨j, hj1, hj2⟩ := List.mem_eraseIdx_iff_getElem?.1 h
  exact ⟨j, hj1, hj2⟩
theorem sorted_get {names : List Int} (hs : names.Pairwise (· < ·)) {p q : Nat} (h : p < q) {a b : Int} (ha : names[p]? = some a) (hb : names[q]? = some b) : a < b := by
  obtain ⟨h1, e1⟩ := List.getElem?_eq_some_iff.1 ha
  obtain ⟨h2, e2⟩ := List.getElem?_eq_some_iff.1 hb
  rw [← e1, ← e2]
  exact List.pairwise_iff_getElem.1 hs p q h1 h2 h
theorem sorted_inj {names : List Int} (hs : names.Pairwise (· < ·)) {p q : Nat} {a : Int} (ha : names[p]? = some a) (hb : names[q]? = some a) : p = q := by
  rcases Nat.lt_trichotomy p q with h | h | h
  · have := sorted_get hs h ha hb; omega
  · exact h
  · have := sorted_get hs h hb ha; omega
theorem getD_some {X : Type} {l : List X} {p : Nat} {a d : X} (h : l[p]? = some a) : l.getD p d = a := by rw [List.getD_eq_getElem?_getD, h]; rfl
theorem cutD_facts {names : List Int} (hs : names.Pairwise (· < ·)) {i : Nat} (hn : 4 ≤ names.length) (hi : i < names.length) :
    Ends names (cutD names i) ∧ (cutD names i).1 ∈ names.eraseIdx i ∧ (cutD names i).2 ∈ names.eraseIdx i ∧
    ((∀ m ∈ names.eraseIdx i, ¬ ((cutD names i).1 < m ∧ m < (cutD names i).2)) ∨ (∀ m ∈ names.eraseIdx i, ¬ (m < (cutD names i).1 ∨ (cutD names i).2 < m))) ∧
    ∀ p m, names[p]? = some m → cntD (cutD names i) m = if p = nbB names.length i ∨ p = nbC names.length i then 1 else 0 := by
  obtain ⟨h1, h2, h3, h4, h5, h6⟩ := nb_facts (by omega : 3 ≤ names.length) hi
  have gb := List.getElem?_eq_getElem h1
  have gc := List.getElem?_eq_getElem h2
  have gi := List.getElem?_eq_getElem hi
  have hmem : ∀ p, p ≠ i → ∀ m, names[p]? = some m → m ∈ names.eraseIdx i := fun p hp m hm => List.mem_eraseIdx_iff_getElem?.2 ⟨p, hp, hm⟩
  have mb := hmem _ h3 _ gb
  have mc := hmem _ h4 _ gc
  have hD : cutD names i = (min names[nbB names.length i] names[nbC names.length i], max names[nbB names.length i] names[nbC names.length i]) := by
    unfold cutD; rw [getD_some gb, getD_some gc]
  have hE : ∀ {m}, m ∈ names.eraseIdx i → ∃ p, p ≠ i ∧ names[p]? = some m := fun h => erase_mem h
  have g0 := List.getElem?_eq_getElem (show 0 < names.length by omega)
  have g1 := List.getElem?_eq_getElem (show 1 < names.length by omega)
  have g2 := List.getElem?_eq_getElem (show 2 < names.length by omega)
  have gl := List.getElem?_eq_getElem (show names.length - 1 < names.length by omega)
  have key : ∀ a b : Int, (names[nbB names.length i] = a ∧ names[nbC names.length i] = b ∨ names[nbB names.length i] = b ∧ names[nbC names.length i] = a) → a < b → (cutD names i) = (a, b) := by
    intro a b h hab
    rw [hD]
    rcases h with ⟨e1, e2⟩ | ⟨e1, e2⟩ <;> rw [e1, e2] <;> simp only [Prod.mk.injEq] <;> constructor <;> omega
  have hcnt : ∀ p m, names[p]? = some m → cntD (cutD names i) m = if p = nbB names.length i ∨ p = nbC names.length i then 1 else 0 := by
    intro p m hm
    have e1 : p = nbB names.length i ↔ names[nbB names.length i] = m := ⟨fun e => by subst e; rw [gb] at hm; exact Option.some.inj hm, fun e => sorted_inj hs hm (by rw [gb, e])⟩
    have e2 : p = nbC names.length i ↔ names[nbC names.length i] = m := ⟨fun e => by subst e; rw [gc] at hm; exact Option.some.inj hm, fun e => sorted_inj hs hm (by rw [gc, e])⟩
    rw [hD]
    unfold cntD
    simp only []
    by_cases c1 : p = nbB names.length i
    · have c2 : ¬ p = nbC names.length i := by omega
      have d1 := e1.1 c1
      have d2 : ¬ names[nbC names.length i] = m := fun e => c2 (e2.2 e)
      simp only [c1, true_or, if_true]
      split <;> split <;> omega
    · have d1 : ¬ names[nbB names.length i] = m := fun e => c1 (e1.2 e)
      by_cases c2 : p = nbC names.length i
      · have d2 := e2.1 c2
        simp only [c2, or_true, if_true]
        split <;> split <;> omega
      · have d2 : ¬ names[nbC names.length i] = m := fun e => c2 (e2.2 e)
        rw [if_neg (by omega : ¬ (p = nbB names.length i ∨ p = nbC names.length i))]
        split <;> split <;> omega
  rcases h6 with ⟨hi0, hb, hc⟩ | ⟨hi0, hb, hc⟩ | ⟨hi0, hi1, hb, hc⟩
  · have lt1 := sorted_get hs (show nbC names.length i < nbB names.length i by omega) gc gb
    have e := key _ _ (.inr ⟨rfl, rfl⟩) lt1
    rw [e]
    refine ⟨⟨List.mem_of_getElem? gc, List.mem_of_getElem? gb, lt1, ⟨_, List.mem_of_getElem? g2, sorted_get hs (by omega) gc g2, sorted_get hs (by omega) g2 gb⟩, ⟨_, List.mem_of_getElem? g0, .inl (sorted_get hs (by omega) g0 gc)⟩⟩, mc, mb, .inr ?_, ?_⟩
    · intro m hm
      obtain ⟨p, hp, hpm⟩ := hE hm
      have := getElem?_lt hpm
      rintro (h | h)
      · have : ¬ nbC names.length i ≤ p := by
          intro hle
          rcases Nat.lt_or_eq_of_le hle with h' | h'
          · have := sorted_get hs h' gc hpm; simp only [] at h; omega
          · subst h'; rw [gc] at hpm; have := Option.some.inj hpm; simp only [] at h; omega
        omega
      · have : ¬ p ≤ nbB names.length i := by
          intro hle
          rcases Nat.lt_or_eq_of_le hle with h' | h'
          · have := sorted_get hs h' hpm gb; simp only [] at h; omega
          · subst h'; rw [gb] at hpm; have := Option.some.inj hpm; simp only [] at h; omega
        omega
    · rw [← e]; exact hcnt
  · have lt1 := sorted_get hs (show nbC names.length i < nbB names.length i by omega) gc gb
    have e := key _ _ (.inr ⟨rfl, rfl⟩) lt1
    rw [e]
    refine ⟨⟨List.mem_of_getElem? gc, List.mem_of_getElem? gb, lt1, ⟨_, List.mem_of_getElem? g1, sorted_get hs (by omega) gc g1, sorted_get hs (by omega) g1 gb⟩, ⟨_, List.mem_of_getElem? gl, .inr (sorted_get hs (by omega) gb gl)⟩⟩, mc, mb, .inr ?_, ?_⟩
    · intro m hm
      obtain ⟨p, hp, hpm⟩ := hE hm
      have := getElem?_lt hpm
      rintro (h | h)
      · have : ¬ nbC names.length i ≤ p := by
          intro hle
          rcases Nat.lt_or_eq_of_le hle with h' | h'
          · have := sorted_get hs h' gc hpm; simp only [] at h; omega
          · subst h'; rw [gc] at hpm; have := Option.some.inj hpm; simp only [] at h; omega
        omega
      · have : ¬ p ≤ nbB names.length i := by
          intro hle
          rcases Nat.lt_or_eq_of_le hle with h' | h'
          · have := sorted_get hs h' hpm gb; simp only [] at h; omega
          · subst h'; rw [gb] at hpm; have := Option.some.inj hpm; simp only [] at h; omega
        omega
    · rw [← e]; exact hcnt
  · have lt1 := sorted_get hs (show nbB names.length i < nbC names.length i by omega) gb gc
    have e := key _ _ (.inl ⟨rfl, rfl⟩) lt1
    rw [e]
    refine ⟨⟨List.mem_of_getElem? gb, List.mem_of_getElem? gc, lt1, ⟨_, List.mem_of_getElem? gi, sorted_get hs (by omega) gb gi, sorted_get hs (by omega) gi gc⟩, ?_⟩, mb, mc, .inl ?_, ?_⟩
    · by_cases hz : 0 < nbB names.length i
      · exact ⟨_, List.mem_of_getElem? g0, .inl (sorted_get hs hz g0 gb)⟩
      · exact ⟨_, List.mem_of_getElem? gl, .inr (sorted_get hs (by omega) gc gl)⟩
    · intro m hm
      obtain ⟨p, hp, hpm⟩ := hE hm
      have := getElem?_lt hpm
      rintro ⟨ha, hb'⟩
      have c1 : nbB names.length i < p := by
        rcases Nat.lt_trichotomy (nbB names.length i) p with h' | h' | h'
        · exact h'
        · subst h'; rw [gb] at hpm; have := Option.some.inj hpm; simp only [] at ha; omega
        · have := sorted_get hs h' hpm gb; simp only [] at ha; omega
      have c2 : p < nbC names.length i := by
        rcases Nat.lt_trichotomy p (nbC names.length i) with h' | h' | h'
        · exact h'
        · subst h'; rw [gc] at hpm; have := Option.some.inj hpm; simp only [] at hb'; omega
        · have := sorted_get hs h' gc hpm; simp only [] at hb'; omega
      omega
    · rw [← e]; exact hcnt
theorem Ends.mono {names names' : List Int} (h : ∀ m ∈ names', m ∈ names) {d : Dg} (hd : Ends names' d) : Ends names d := by
  obtain ⟨a, b, c, ⟨m, hm, hm'⟩, ⟨q, hq, hq'⟩⟩ := hd
  exact ⟨h _ a, h _ b, c, ⟨m, h _ hm, hm'⟩, ⟨q, h _ hq, hq'⟩⟩
theorem tri_good : ∀ (k : Nat) (l names : List Int) (ds : List Dg), names.Pairwise (· < ·) → l.length = k + 3 → names.length = k + 3 → tri k l names = some ds → ds.length = k ∧ Good names ds
  | 0, l, names, ds, hs, hl, hn, h => by
    unfold tri at h
    split at h
    · cases h; exact ⟨rfl, by simp, by simp⟩
    · cases h
  | k + 1, l, names, ds, hs, hl, hn, h => by
    unfold tri at h
    cases he : ear l with
    | none => rw [he] at h; cases h
    | some i =>
      rw [he] at h
      simp only [] at h
      obtain ⟨hi, _⟩ := ear_lt he
      obtain ⟨ds', h1, h2⟩ := Option.map_eq_some_iff.1 h
      subst h2
      have hE : (names.eraseIdx i).length = k + 3 := by rw [List.length_eraseIdx, if_pos (by omega)]; omega
      have hsub : ∀ m ∈ names.eraseIdx i, m ∈ names := fun m hm => List.mem_of_mem_eraseIdx hm
      obtain ⟨g1, g2, g3⟩ := tri_good k (cutL l i) (names.eraseIdx i) ds' (hs.sublist (List.eraseIdx_sublist ..)) (by rw [cutL_length hi]; omega) hE h1
      obtain ⟨f1, f2, f3, f4, f5⟩ := cutD_facts hs (by omega) (show i < names.length by omega)
      refine ⟨by simp [g1], fun d hd => ?_, ?_⟩
      · rcases List.mem_cons.1 hd with rfl | hd
        · exact f1
        · exact (g2 d hd).mono hsub
      · refine List.pairwise_cons.2 ⟨fun e he' => ?_, g3⟩
        obtain ⟨q1, q2, q3, ⟨m, q4, q5⟩, ⟨m', q6, q7⟩⟩ := g2 e he'
        generalize cutD names i = d at *
        constructor
        · rintro rfl
          rcases f4 with f4 | f4
          · exact f4 m q4 q5
          · exact f4 m' q6 q7
        · unfold crossD
          rcases f4 with f4 | f4
          · have a1 := f4 _ q1
            have a2 := f4 _ q2
            simp
            constructor <;> intro h1 h2 <;> omega
          · have a1 := f4 _ q1
            have a2 := f4 _ q2
            simp
            constructor <;> intro h1 h2 <;> omega
theorem cnt_nn (ds : List Dg) (m : Int) : 0 ≤ cnt ds m ∧ cnt ds m ≤ 2 * ds.length := by
  induction ds with
  | nil => simp [cnt]
  | cons d t ih =>
    have : cnt (d :: t) m = cntD d m + cnt t m := rfl
    rw [this, List.length_cons]
    unfold cntD
    split <;> split <;> omega
theorem cnt_zero (ds : List Dg) (m : Int) (h : ∀ d ∈ ds, d.1 ≠ m ∧ d.2 ≠ m) : cnt ds m = 0 := by
  induction ds with
  | nil => simp [cnt]
  | cons d t ih =>
    have e : cnt (d :: t) m = cntD d m + cnt t m := rfl
    have := h d (by simp)
    rw [e, ih (fun d hd => h d (by simp [hd]))]
    unfold cntD
    rw [if_neg this.1, if_neg this.2]
    rfl
def Cnts (l names : List Int) (ds : List Dg) : Prop := ∀ (p : Nat) (v m : Int), l[p]? = some v → names[p]? = some m → v = 1 + cnt ds m
theorem good_ne {names : List Int} {ds : List Dg} (g : Good names ds) {m : Int} (h : m ∉ names) : cnt ds m = 0 :=
  cnt_zero ds m fun d hd => ⟨fun e => h (e ▸ (g.1 d hd).1), fun e => h (e ▸ (g.1 d hd).2.1)⟩
theorem cut_cnts {k : Nat} {l names : List Int} {i : Nat} {ds : List Dg} (hs : names.Pairwise (· < ·)) (hl : l.length = k + 4) (hn : names.length = k + 4) (hi : ear l = some i) (g : Good (names.eraseIdx i) ds)
    (hw : ∀ p, p < l.length → w64 (l.getD p 0 - 1) = l.getD p 0 - 1) : Cnts (cutL l i) (names.eraseIdx i) ds ↔ Cnts l names (cutD names i :: ds) := by
  obtain ⟨hil, hi1⟩ := ear_lt hi
  obtain ⟨h1, h2, h3, h4, h5, h6⟩ := nb_facts (by omega : 3 ≤ l.length) hil
  obtain ⟨f1, f2, f3, f4, f5⟩ := cutD_facts hs (by omega) (show i < names.length by omega)
  have hcv : ∀ p m, p < l.length → names[p]? = some m → cutV l i p = l.getD p 0 - cntD (cutD names i) m := by
    intro p m hp hm
    rw [f5 p m hm, hn, ← hl]
    unfold cutV
    rw [hw p hp]
    split <;> simp
  constructor
  · intro h p v m hv hm
    have e : cnt (cutD names i :: ds) m = cntD (cutD names i) m + cnt ds m := rfl
    rw [e]
    have hp := getElem?_lt hv
    by_cases hpi : p = i
    · subst hpi
      rw [hi1] at hv
      cases hv
      have := f5 p m hm
      rw [hn, ← hl, if_neg (by omega)] at this
      rw [this, good_ne g]
      · rfl
      · intro hmem
        obtain ⟨q, hq, hqm⟩ := erase_mem hmem
        exact hq (sorted_inj hs hqm hm)
    · have := h (if p < i then p else p - 1) (cutV l i p) m (cutL_get (by omega) hil hp hpi) (by rw [erase_get hpi]; exact hm)
      rw [hcv p m hp hm, getD_some hv] at this
      omega
  · intro h p' v m hv hm
    have hp' := getElem?_lt hv
    rw [cutL_length hil] at hp'
    obtain ⟨p, hpi, hpp, hp⟩ : ∃ p, p ≠ i ∧ (if p < i then p else p - 1) = p' ∧ p < l.length := by
      by_cases hh : p' < i
      · exact ⟨p', by omega, by rw [if_pos hh], by omega⟩
      · exact ⟨p' + 1, by omega, by rw [if_neg (by omega)]; omega, by omega⟩
    rw [← hpp] at hv hm
    rw [cutL_get (by omega) hil hp hpi] at hv
    rw [erase_get hpi] at hm
    cases hv
    rw [hcv p m hp hm]
    have := h p (l.getD p 0) m (by rw [List.getElem?_eq_getElem hp, List.getD_eq_getElem?_getD, List.getElem?_eq_getElem hp]; rfl) hm
    have e : cnt (cutD names i :: ds) m = cntD (cutD names i) m + cnt ds m := rfl
    omega
theorem triS_tri : ∀ (k : Nat) (l names : List Int) (ds : List Dg), names.Pairwise (· < ·) → l.length = k + 3 → names.length = k + 3 → (∀ v ∈ l, 1 ≤ v ∧ v ≤ 4611686018427387904) → triS k l names = some ds → tri k l names = some ds ∧ Cnts l names ds
  | 0, l, names, ds, hs, hl, hn, hb, h => by
    unfold triS at h
    refine ⟨by unfold tri; exact h, ?_⟩
    split at h
    · rename_i e
      cases h
      intro p v m hv hm
      have := List.mem_of_getElem? hv
      rw [e] at this
      simp at this
      rw [this]; rfl
    · cases h
  | k + 1, l, names, ds, hs, hl, hn, hb, h => by
    unfold triS at h
    cases he : ear l with
    | none => rw [he] at h; cases h
    | some i =>
      rw [he] at h
      simp only [] at h
      split at h
      · rename_i hok
        obtain ⟨hi, _⟩ := ear_lt he
        obtain ⟨n1, n2, n3, n4, n5, n6⟩ := nb_facts (by omega : 3 ≤ l.length) hi
        obtain ⟨ds', h1, h2⟩ := Option.map_eq_some_iff.1 h
        subst h2
        have hE : (names.eraseIdx i).length = k + 3 := by rw [List.length_eraseIdx, if_pos (by omega)]; omega
        have hgd : ∀ p, p < l.length → 1 ≤ l.getD p 0 ∧ l.getD p 0 ≤ 4611686018427387904 := by
          intro p hp
          rw [List.getD_eq_getElem?_getD, List.getElem?_eq_getElem hp]
          exact hb _ (List.getElem_mem hp)
        have hw : ∀ p, p < l.length → w64 (l.getD p 0 - 1) = l.getD p 0 - 1 := by
          intro p hp
          have := hgd p hp
          exact w64_id (by omega) (by omega)
        have hb' : ∀ v ∈ cutL l i, 1 ≤ v ∧ v ≤ 4611686018427387904 := by
          intro v hv
          obtain ⟨p', hp'⟩ := List.mem_iff_getElem?.1 hv
          have hlt := getElem?_lt hp'
          rw [cutL_length hi] at hlt
          obtain ⟨p, hpi, hpp, hp⟩ : ∃ p, p ≠ i ∧ (if p < i then p else p - 1) = p' ∧ p < l.length := by
            by_cases hh : p' < i
            · exact ⟨p', by omega, by rw [if_pos hh], by omega⟩
            · exact ⟨p' + 1, by omega, by rw [if_neg (by omega)]; omega, by omega⟩
          rw [← hpp, cutL_get (by omega) hi hp hpi] at hp'
          cases hp'
          unfold okC at hok
          have hok := of_decide_eq_true hok
          have := hgd p hp
          unfold cutV
          split
          · rename_i hh
            rcases hh with rfl | rfl
            · refine ⟨hok.1, ?_⟩
              rw [hw _ hp]; omega
            · refine ⟨hok.2, ?_⟩
              rw [hw _ hp]; omega
          · exact this
        obtain ⟨g1, g2⟩ := triS_tri k (cutL l i) (names.eraseIdx i) ds' (hs.sublist (List.eraseIdx_sublist ..)) (by rw [cutL_length hi]; omega) hE hb' h1
        have g := (tri_good k _ _ _ (hs.sublist (List.eraseIdx_sublist ..)) (by rw [cutL_length hi]; omega) hE g1).2
        refine ⟨?_, (cut_cnts hs hl hn he g hw).1 g2⟩
        unfold tri
        rw [he]
        simp only []
        rw [g1]
        rfl
      · cases h
theorem tri_triS : ∀ (k : Nat) (l names : List Int) (ds : List Dg), names.Pairwise (· < ·) → l.length = k + 3 → names.length = k + 3 → k < 1000000 → tri k l names = some ds → Cnts l names ds → triS k l names = some ds
  | 0, l, names, ds, hs, hl, hn, hk, h, hc => by
    unfold tri at h
    unfold triS
    exact h
  | k + 1, l, names, ds, hs, hl, hn, hk, h, hc => by
    have hlen := (tri_good _ _ _ _ hs hl hn h).1
    unfold tri at h
    unfold triS
    cases he : ear l with
    | none => rw [he] at h; cases h
    | some i =>
      rw [he] at h
      simp only [] at h ⊢
      obtain ⟨hi, _⟩ := ear_lt he
      obtain ⟨n1, n2, n3, n4, n5, n6⟩ := nb_facts (by omega : 3 ≤ l.length) hi
      obtain ⟨ds', h1, h2⟩ := Option.map_eq_some_iff.1 h
      subst h2
      have hE : (names.eraseIdx i).length = k + 3 := by rw [List.length_eraseIdx, if_pos (by omega)]; omega
      have g := (tri_good k _ _ _ (hs.sublist (List.eraseIdx_sublist ..)) (by rw [cutL_length hi]; omega) hE h1).2
      obtain ⟨f1, f2, f3, f4, f5⟩ := cutD_facts hs (by omega) (show i < names.length by omega)
      have hgd : ∀ p (hp : p < l.length), l.getD p 0 = 1 + (cntD (cutD names i) (names[p]'(by omega)) + cnt ds' (names[p]'(by omega))) := by
        intro p hp
        rw [List.getD_eq_getElem?_getD, List.getElem?_eq_getElem hp]
        exact hc p _ _ (List.getElem?_eq_getElem hp) (List.getElem?_eq_getElem (by omega))
      have hw : ∀ p, p < l.length → w64 (l.getD p 0 - 1) = l.getD p 0 - 1 := by
        intro p hp
        have e := hgd p hp
        have c1 := cnt_nn ds' (names[p]'(by omega))
        have c2 : cntD (cutD names i) (names[p]'(by omega)) ≤ 2 ∧ 0 ≤ cntD (cutD names i) (names[p]'(by omega)) := by unfold cntD; split <;> split <;> omega
        rw [List.length_cons] at hlen
        rw [w64_id (by omega) (by omega)]
      have hok : okC l i = true := by
        unfold okC
        refine decide_eq_true ⟨?_, ?_⟩
        · rw [hw _ n1, hgd _ n1, f5 _ _ (List.getElem?_eq_getElem (by omega)), if_pos (.inl (by rw [hn, hl]))]
          have := cnt_nn ds' (names[nbB l.length i]'(by omega))
          omega
        · rw [hw _ n2, hgd _ n2, f5 _ _ (List.getElem?_eq_getElem (by omega)), if_pos (.inr (by rw [hn, hl]))]
          have := cnt_nn ds' (names[nbC l.length i]'(by omega))
          omega
      rw [if_pos hok, tri_triS k _ _ _ (hs.sublist (List.eraseIdx_sublist ..)) (by rw [cutL_length hi]; omega) hE (by omega) h1 ((cut_cnts hs hl hn he g hw).2 hc)]
      rfl



def ltD (d e : Dg) : Bool := decide (d.1 < e.1 ∨ d.1 = e.1 ∧ d.2 < e.2)
def leD (d e : Dg) : Bool := !ltD e d
def cmpD (d e : Dg) : Int := if ltD d e then -1 else if ltD e d then 1 else 0
theorem leD_iff {d e : Dg} : leD d e = true ↔ d.1 < e.1 ∨ d.1 = e.1 ∧ d.2 ≤ e.2 := by
  unfold leD ltD; simp; omega
theorem ltD_iff {d e : Dg} : ltD d e = true ↔ d.1 < e.1 ∨ d.1 = e.1 ∧ d.2 < e.2 := by
  unfold ltD; simp
theorem leD_trans {a b c : Dg} (h1 : leD a b = true) (h2 : leD b c = true) : leD a c = true := by
  rw [leD_iff] at *; omega
theorem leD_anti {a b : Dg} (h1 : leD a b = true) (h2 : leD b a = true) : a = b := by
  rw [leD_iff] at *
  exact Prod.ext (by omega) (by omega)
theorem leD_of_lt {a b : Dg} (h : ltD a b = true) : leD a b = true := by
  rw [leD_iff]; rw [ltD_iff] at h; omega
theorem leD_of_not {a b : Dg} (h : ltD a b = false) : leD b a = true := by unfold leD; rw [h]; rfl
theorem ltD_of {a b : Dg} (h : leD a b = true) (hne : a ≠ b) : ltD a b = true := by
  rw [leD_iff] at h; rw [ltD_iff]
  rcases h with h | ⟨h1, h2⟩
  · exact .inl h
  · refine .inr ⟨h1, ?_⟩
    rcases Int.lt_or_lt_of_ne (fun e => hne (Prod.ext h1 e)) with h | h <;> omega
def SortedD (l : List Dg) : Prop := l.Pairwise fun a b => leD a b = true
theorem sorted_unique {l m : List Dg} (h1 : SortedD l) (h2 : SortedD m) (hp : l.Perm m) : l = m :=
  List.Perm.eq_of_pairwise (fun a b _ _ h1 h2 => leD_anti h1 h2) h1 h2 hp
def insD (d : Dg) (l : List Dg) : List Dg := l.takeWhile (ltD · d) ++ d :: l.dropWhile (ltD · d)
theorem insD_perm (d : Dg) (l : List Dg) : (insD d l).Perm (d :: l) := by
  unfold insD
  have h := List.perm_middle (a := d) (l₁ := l.takeWhile (ltD · d)) (l₂ := l.dropWhile (ltD · d))
  rwa [List.takeWhile_append_dropWhile] at h
theorem insD_sorted (d : Dg) : ∀ {l : List Dg}, SortedD l → SortedD (insD d l)
  | [], _ => by simp [insD, SortedD]
  | x :: t, h => by
    obtain ⟨h1, h2⟩ := List.pairwise_cons.1 h
    unfold insD
    cases hx : ltD x d with
    | true =>
      rw [List.takeWhile_cons, List.dropWhile_cons]
      simp only [hx, if_true, List.cons_append]
      refine List.pairwise_cons.2 ⟨fun y hy => ?_, insD_sorted d h2⟩
      have : y ∈ d :: t := (insD_perm d t).mem_iff.1 hy
      rcases List.mem_cons.1 this with rfl | hy
      · exact leD_of_lt hx
      · exact h1 y hy
    | false =>
      rw [List.takeWhile_cons, List.dropWhile_cons]
      simp only [hx, Bool.false_eq_true, if_false, List.nil_append]
      refine List.pairwise_cons.2 ⟨fun y hy => ?_, h⟩
      rcases List.mem_cons.1 hy with rfl | hy
      · exact leD_of_not hx
      · exact leD_trans (leD_of_not hx) (h1 y hy)
def sortD (l : List Dg) : List Dg := l.foldl (fun out d => insD d out) []
theorem sortD_go : ∀ (l out : List Dg), SortedD out → SortedD (l.foldl (fun out d => insD d out) out) ∧ (l.foldl (fun out d => insD d out) out).Perm (out ++ l)
  | [], out, h => ⟨h, by simp⟩
  | d :: l, out, h => by
    obtain ⟨h1, h2⟩ := sortD_go l (insD d out) (insD_sorted d h)
    refine ⟨h1, h2.trans ?_⟩
    exact ((insD_perm d out).append_right l).trans (by simpa using (List.perm_middle (a := d) (l₁ := out) (l₂ := l)).symm)
theorem sortD_sorted (l : List Dg) : SortedD (sortD l) := (sortD_go l [] (by simp [SortedD])).1
theorem sortD_perm (l : List Dg) : (sortD l).Perm l := by have h := (sortD_go l [] (by simp [SortedD])).2; rwa [List.nil_append] at h
theorem sortD_length (l : List Dg) : (sortD l).length = l.length := (sortD_perm l).length_eq
/-! insertion by swaps -/
def gD (l : List Dg) (p : Nat) : Dg := l.getD p (0, 0)
def swapD (l : List Dg) (j : Nat) : List Dg := (l.set (j + 1) (gD l j)).set j (gD l (j + 1))
def sinkD : Nat → List Dg → List Dg
  | 0, l => l
  | j + 1, l => if ltD (gD l (j + 1)) (gD l j) then sinkD j (swapD l j) else l
theorem gD_eq {l : List Dg} {p : Nat} (h : p < l.length) : gD l p = l[p] := by unfold gD; rw [List.getD_eq_getElem?_getD, List.getElem?_eq_getElem h]; rfl
theorem gD_some {l : List Dg} {p : Nat} (h : p < l.length) : l[p]? = some (gD l p) := by rw [gD_eq h, List.getElem?_eq_getElem h]
theorem swapD_length (l : List Dg) (j : Nat) : (swapD l j).length = l.length := by simp [swapD]
theorem sinkD_length : ∀ (j : Nat) (l : List Dg), (sinkD j l).length = l.length
  | 0, l => rfl
  | j + 1, l => by
    unfold sinkD
    split
    · rw [sinkD_length, swapD_length]
    · rfl
theorem swapD_perm {l : List Dg} {j : Nat} (h : j + 1 < l.length) : (swapD l j).Perm l := by
  unfold swapD
  rw [gD_eq h, gD_eq (by omega)]
  exact List.set_set_perm (by omega) (by omega)
theorem sinkD_perm : ∀ {j : Nat} {l : List Dg}, j < l.length → (sinkD j l).Perm l
  | 0, l, _ => .refl _
  | j + 1, l, h => by
    unfold sinkD
    split
    · exact (sinkD_perm (by rw [swapD_length]; omega)).trans (swapD_perm h)
    · exact .refl _
theorem swapD_get {l : List Dg} {j p : Nat} (h : j + 1 < l.length) : gD (swapD l j) p = if p = j then gD l (j + 1) else if p = j + 1 then gD l j else gD l p := by
  unfold swapD
  conv => lhs; unfold gD
  simp only [List.getD_eq_getElem?_getD]
  by_cases e1 : p = j
  · subst e1
    rw [List.getElem?_set_self (by simp; omega), if_pos rfl]; rfl
  · rw [List.getElem?_set_ne (fun e => e1 e.symm), if_neg e1]
    by_cases e2 : p = j + 1
    · subst e2
      rw [List.getElem?_set_self h, if_pos rfl]; rfl
    · rw [List.getElem?_set_ne (fun e => e2 e.symm), if_neg e2]
      unfold gD; rw [List.getD_eq_getElem?_getD]
def SUp (l : List Dg) (i : Nat) : Prop := ∀ p q, p < q → q ≤ i → leD (gD l p) (gD l q) = true
theorem sinkD_up : ∀ (j : Nat) (l : List Dg) (i : Nat), j < l.length → j ≤ i → (∀ p q, p < q → q ≤ i → p ≠ j → q ≠ j → leD (gD l p) (gD l q) = true) → (∀ q, j < q → q ≤ i → leD (gD l j) (gD l q) = true) → SUp (sinkD j l) i
  | 0, l, i, hl, hi, h1, h2 => by
    intro p q hpq hq
    by_cases e : p = 0
    · subst e; exact h2 q hpq hq
    · exact h1 p q hpq hq e (by omega)
  | j + 1, l, i, hl, hi, h1, h2 => by
    unfold sinkD
    cases hlt : ltD (gD l (j + 1)) (gD l j) with
    | true =>
      simp only [if_true]
      refine sinkD_up j (swapD l j) i (by rw [swapD_length]; omega) (by omega) (fun p q hpq hq hp hq' => ?_) (fun q hq hqi => ?_)
      · rw [swapD_get hl, swapD_get hl, if_neg hp, if_neg hq']
        by_cases e1 : p = j + 1
        · rw [if_pos e1, if_neg (by omega)]
          exact h1 j q (by omega) hq (by omega) (by omega)
        · rw [if_neg e1]
          by_cases e2 : q = j + 1
          · rw [if_pos e2]
            exact h1 p j (by omega) (by omega) e1 (by omega)
          · rw [if_neg e2]
            exact h1 p q hpq hq e1 e2
      · rw [swapD_get hl, swapD_get hl, if_pos rfl, if_neg (by omega)]
        by_cases e2 : q = j + 1
        · rw [if_pos e2]; exact leD_of_lt hlt
        · rw [if_neg e2]; exact h2 q (by omega) hqi
    | false =>
      simp only [Bool.false_eq_true, if_false]
      intro p q hpq hq
      by_cases e1 : p = j + 1
      · subst e1; exact h2 q hpq hq
      · by_cases e2 : q = j + 1
        · subst e2
          have := leD_of_not hlt
          by_cases e3 : p = j
          · subst e3; exact this
          · exact leD_trans (h1 p j (by omega) (by omega) e1 (by omega)) this
        · exact h1 p q hpq hq e1 e2
def isortD : Nat → Nat → List Dg → List Dg
  | 0, _, l => l
  | n + 1, i, l => isortD n (i + 1) (sinkD i l)
theorem isortD_spec : ∀ (n i : Nat) (l : List Dg), 0 < i → i + n = l.length → SUp l (i - 1) → SUp (isortD n i l) (l.length - 1) ∧ (isortD n i l).Perm l
  | 0, i, l, hi, hl, h => by
    refine ⟨?_, .refl _⟩
    rw [← hl]
    exact h
  | n + 1, i, l, hi, hl, h => by
    have hs := sinkD_up i l i (by omega) (Nat.le_refl _) (fun p q hpq hq hp hq' => h p q hpq (by omega)) (fun q h1 h2 => by omega)
    obtain ⟨h1, h2⟩ := isortD_spec n (i + 1) (sinkD i l) (by omega) (by rw [sinkD_length]; omega) (by simpa using hs)
    rw [sinkD_length] at h1
    exact ⟨h1, h2.trans (sinkD_perm (by omega))⟩
theorem isortD_eq (l : List Dg) : isortD (l.length - 1) 1 l = sortD l := by
  by_cases h0 : l.length = 0
  · have : l = [] := List.eq_nil_of_length_eq_zero h0
    subst this; rfl
  obtain ⟨h1, h2⟩ := isortD_spec (l.length - 1) 1 l (by omega) (by omega) (fun p q h1 h2 => by omega)
  refine sorted_unique ?_ (sortD_sorted l) (h2.trans (sortD_perm l).symm)
  unfold SortedD
  rw [List.pairwise_iff_getElem]
  intro p q hp hq hpq
  have hlen := h2.length_eq
  have := h1 p q hpq (by omega)
  rwa [gD_eq hp, gD_eq hq] at this
theorem take_while_idx (d : Dg) : ∀ (l : List Dg), ∃ k, k ≤ l.length ∧ l.takeWhile (ltD · d) = l.take k ∧ l.dropWhile (ltD · d) = l.drop k ∧ (∀ p, p < k → ltD (gD l p) d = true) ∧ (k < l.length → ltD (gD l k) d = false)
  | [] => ⟨0, by simp, by simp, by simp, by simp, by simp⟩
  | x :: t => by
    cases hx : ltD x d with
    | false => exact ⟨0, by simp, by simp [hx], by simp [hx], by simp, by simp [gD, hx]⟩
    | true =>
      obtain ⟨k, h1, h2, h3, h4, h5⟩ := take_while_idx d t
      refine ⟨k + 1, by simpa using h1, by simp [hx, h2], by simp [hx, h3], fun p hp => ?_, fun hk => ?_⟩
      · cases p with
        | zero => simpa [gD] using hx
        | succ p => simpa [gD] using h4 p (by omega)
      · simpa [gD] using h5 (by simpa using hk)
def inDg (n : Int) (d : Dg) : Bool := inB 0 (n - 1) d.1 && inB 0 (n - 1) d.2 && decide (d.2 - d.1 > 1) && !(d.1 == 0 && d.2 == n - 1)
def badT (n : Int) (ds : List Dg) (k : Nat) : Bool := !inDg n (gD ds k) || (decide (0 < k) && !ltD (gD ds (k - 1)) (gD ds k)) || (ds.take k).any (crossD (gD ds k))
def isTri (n : Int) (ds : List Dg) : Bool := inB 3 12 n && decide ((ds.length : Int) = n - 3) && !(List.range ds.length).any (badT n ds)
theorem isTri_iff (n : Int) (ds : List Dg) : isTri n ds = true ↔ (3 ≤ n ∧ n ≤ 12) ∧ (ds.length : Int) = n - 3 ∧ (∀ d ∈ ds, inDg n d = true) ∧ ds.Pairwise (fun d e => ltD d e = true ∧ crossD e d = false) := by
  unfold isTri
  simp only [Bool.and_eq_true, inB_iff, decide_eq_true_eq, Bool.not_eq_true', and_assoc]
  refine and_congr_right fun h1 => and_congr_right fun h2 => and_congr_right fun h3 => ?_
  rw [List.any_eq_false]
  simp only [List.mem_range, badT, Bool.or_eq_true, Bool.not_eq_true', Bool.and_eq_true, decide_eq_true_eq, not_or, not_and, Bool.not_eq_false, Bool.not_eq_true]
  have ltT : ∀ {a b c : Dg}, ltD a b = true → ltD b c = true → ltD a c = true := by
    intro a b c h1 h2; rw [ltD_iff] at *; omega
  constructor
  · intro h
    refine ⟨fun d hd => ?_, ?_⟩
    · obtain ⟨k, hk, e⟩ := List.getElem_of_mem hd
      have := (h k hk).1.1
      rwa [gD_eq hk, e] at this
    · have up : ∀ m p, p + m + 1 < ds.length → ltD (gD ds p) (gD ds (p + m + 1)) = true := by
        intro m
        induction m with
        | zero => intro p hp; have := (h (p + 1) hp).1.2 (by omega); simpa using this
        | succ m ih =>
          intro p hp
          have := (h (p + m + 1 + 1) (by omega)).1.2 (by omega)
          rw [show p + m + 1 + 1 - 1 = p + m + 1 by omega] at this
          have e2 := ltT (ih p (by omega)) this
          rwa [show p + (m + 1) + 1 = p + m + 1 + 1 by omega]
      rw [List.pairwise_iff_getElem]
      intro p q hp hq hpq
      have h2' := up (q - p - 1) p (by omega)
      rw [show p + (q - p - 1) + 1 = q by omega, gD_eq hp, gD_eq hq] at h2'
      refine ⟨h2', ?_⟩
      have := (h q hq).2
      rw [List.any_eq_false] at this
      have := this ds[p] (List.mem_take_iff_getElem.2 ⟨p, by omega, rfl⟩)
      rw [gD_eq hq] at this
      simpa using this
  · rintro ⟨g1, g2⟩ k hk
    rw [List.pairwise_iff_getElem] at g2
    refine ⟨⟨by rw [gD_eq hk]; exact g1 _ (List.getElem_mem hk), fun hk0 => ?_⟩, ?_⟩
    · rw [gD_eq hk, gD_eq (show k - 1 < ds.length by omega)]
      exact (g2 (k - 1) k (by omega) hk (by omega)).1
    · rw [List.any_eq_false]
      intro e he
      obtain ⟨p, hp, e'⟩ := List.mem_take_iff_getElem.1 he
      have := (g2 p k (by omega) hk (by omega)).2
      rw [e', ← gD_eq hk] at this
      simpa using this
theorem crossD_comm (d e : Dg) : crossD d e = crossD e d := by
  unfold crossD
  exact Bool.or_comm _ _
theorem good_isTri {n : Nat} {names : List Int} {ds : List Dg} (hn : 3 ≤ n ∧ n ≤ 12) (hnm : ∀ m ∈ names, 0 ≤ m ∧ m < n) (g : Good names ds) (hl : ds.length = n - 3) : isTri n (sortD ds) = true := by
  rw [isTri_iff]
  refine ⟨by omega, by rw [sortD_length]; omega, fun d hd => ?_, ?_⟩
  · obtain ⟨q1, q2, q3, ⟨m, q4, q5⟩, ⟨m', q6, q7⟩⟩ := g.1 d ((sortD_perm ds).mem_iff.1 hd)
    have a1 := hnm _ q1
    have a2 := hnm _ q2
    have a3 := hnm _ q6
    have i1 : inB 0 ((n : Int) - 1) d.1 = true := inB_iff.2 (by omega)
    have i2 : inB 0 ((n : Int) - 1) d.2 = true := inB_iff.2 (by omega)
    unfold inDg
    rw [i1, i2]
    simp
    omega
  · have h1 : (sortD ds).Pairwise Apart := (List.Perm.pairwise_iff (fun {x y} h => ⟨h.1.symm, by rw [crossD_comm]; exact h.2⟩) (sortD_perm ds)).2 g.2
    have h2 := sortD_sorted ds
    exact (List.Pairwise.and h2 h1).imp fun {a b} h => ⟨ltD_of h.1 h.2.1, by rw [crossD_comm]; exact h.2.2⟩
def bumpD (out : List Int) (d : Dg) : List Int := ((out.set d.1.toNat (out.getD d.1.toNat 0 + 1))).set d.2.toNat (out.getD d.2.toNat 0 + 1)
theorem bumpD_get {out : List Int} {d : Dg} {p : Nat} (h1 : 0 ≤ d.1) (h2 : d.1 < d.2) (h3 : d.2 < out.length) (hp : p < out.length) : (bumpD out d).getD p 0 = out.getD p 0 + cntD d p := by
  unfold bumpD cntD
  simp only [List.getD_eq_getElem?_getD]
  by_cases e2 : d.2.toNat = p
  · subst e2
    rw [List.getElem?_set_self (by simp; omega), if_neg (by omega), if_pos (by omega)]
    simp
  · rw [List.getElem?_set_ne e2]
    by_cases e1 : d.1.toNat = p
    · subst e1
      rw [List.getElem?_set_self (by omega), if_pos (by omega), if_neg (by omega)]
      simp
    · rw [List.getElem?_set_ne e1, if_neg (by omega), if_neg (by omega)]
      simp
theorem bumpD_length (out : List Int) (d : Dg) : (bumpD out d).length = out.length := by simp [bumpD]
def quid (n : Nat) (ds : List Dg) : List Int := (List.range n).map fun (p : Nat) => 1 + cnt ds (p : Int)
theorem cnt_cons (d : Dg) (t : List Dg) (m : Int) : cnt (d :: t) m = cntD d m + cnt t m := rfl
theorem cnt_perm {ds es : List Dg} (h : ds.Perm es) (m : Int) : cnt ds m = cnt es m := by
  induction h with
  | nil => rfl
  | cons x _ ih => rw [cnt_cons, cnt_cons, ih]
  | swap x y l => simp only [cnt_cons]; omega
  | trans _ _ h1 h2 => rw [h1, h2]
theorem bump_fold (n : Nat) : ∀ (ds : List Dg) (out : List Int), out.length = n → (∀ d ∈ ds, 0 ≤ d.1 ∧ d.1 < d.2 ∧ d.2 < (n : Int)) → (ds.foldl bumpD out).length = n ∧ ∀ p, p < n → (ds.foldl bumpD out).getD p 0 = out.getD p 0 + cnt ds p
  | [], out, hl, h => ⟨hl, fun p hp => by simp [cnt]⟩
  | d :: t, out, hl, h => by
    have hd := h d (by simp)
    obtain ⟨h1, h2⟩ := bump_fold n t (bumpD out d) (by rw [bumpD_length, hl]) (fun e he => h e (by simp [he]))
    refine ⟨h1, fun p hp => ?_⟩
    rw [List.foldl_cons, h2 p hp, bumpD_get hd.1 hd.2.1 (by omega) (by omega), cnt_cons]
    omega
def nameL (n : Nat) : List Int := (List.range n).map fun (k : Nat) => (k : Int)
theorem nameL_length (n : Nat) : (nameL n).length = n := by simp [nameL]
theorem nameL_succ (n : Nat) : nameL (n + 1) = nameL n ++ [(n : Int)] := by simp [nameL, List.range_succ]
theorem nameL_get {n p : Nat} (h : p < n) : (nameL n)[p]? = some (p : Int) := by simp [nameL, h]
theorem nameL_sorted (n : Nat) : (nameL n).Pairwise (· < ·) := by
  rw [List.pairwise_iff_getElem]
  intro i j hi hj hij
  simp [nameL]
  omega
theorem nameL_mem {n : Nat} {m : Int} (h : m ∈ nameL n) : 0 ≤ m ∧ m < n := by
  obtain ⟨p, hp, e⟩ := List.mem_map.1 h
  have := List.mem_range.1 hp
  subst e
  omega
theorem cnts_quid {l : List Int} {ds : List Dg} : Cnts l (nameL l.length) ds ↔ quid l.length ds = l := by
  constructor
  · intro h
    refine List.ext_getElem (by simp [quid]) fun p hp hp' => ?_
    have := h p l[p] (p : Int) (List.getElem?_eq_getElem hp') (nameL_get hp')
    rw [this]
    simp [quid]
  · intro h p v m hv hm
    have hp := getElem?_lt hv
    rw [nameL_get hp] at hm
    cases hm
    rw [← h] at hv
    simp only [quid, List.getElem?_map, List.getElem?_range hp, Option.map_some, Option.some.injEq] at hv
    exact hv.symm
def trOf (l : List Int) : Option (List Dg) :=
  if inB 3 12 l.length then
    match tri (l.length - 3) l (nameL l.length) with
    | some ds => if quid l.length ds = l then some (sortD ds) else none
    | none => none
  else none
theorem trOf_spec (l : List Int) (h : l.all (inB 1 12) = true) (hn : inB 3 12 l.length = true) : (triS (l.length - 3) l (nameL l.length)).map sortD = trOf l := by
  rw [inB_iff] at hn
  have hb : ∀ v ∈ l, 1 ≤ v ∧ v ≤ 4611686018427387904 := fun v hv => by
    have := inB_iff.1 (List.all_eq_true.1 h v hv)
    omega
  unfold trOf
  rw [if_pos (inB_iff.2 hn)]
  have hl : l.length = l.length - 3 + 3 := by omega
  cases hS : triS (l.length - 3) l (nameL l.length) with
  | some ds =>
    obtain ⟨g1, g2⟩ := triS_tri _ _ _ _ (nameL_sorted _) hl (by rw [nameL_length]; omega) hb hS
    rw [g1]
    simp only []
    rw [if_pos (cnts_quid.1 g2)]
    rfl
  | none =>
    cases hT : tri (l.length - 3) l (nameL l.length) with
    | none => rfl
    | some ds =>
      simp only []
      split
      · rename_i hq
        have := tri_triS _ _ _ _ (nameL_sorted _) hl (by rw [nameL_length]; omega) (by omega) hT (cnts_quid.2 hq)
        rw [this] at hS
        cases hS
      · rfl
theorem cnt_le : ∀ {ds : List Dg} {m : Int}, (∀ d ∈ ds, d.1 < d.2) → cnt ds m ≤ ds.length
  | [], m, h => by simp [cnt]
  | d :: t, m, h => by
    have := cnt_le (ds := t) (m := m) fun d hd => h d (by simp [hd])
    rw [cnt_cons, List.length_cons]
    have q := h d (by simp)
    have : cntD d m ≤ 1 := by unfold cntD; split <;> split <;> omega
    omega
theorem trOf_bad (l : List Int) (h : l.all (inB 1 12) = false) : trOf l = none := by
  unfold trOf
  split
  · rename_i hn
    rw [inB_iff] at hn
    split
    · rename_i ds hT
      rw [if_neg]
      intro hq
      have hds := (tri_good _ _ _ _ (nameL_sorted _) (by omega) (by rw [nameL_length]; omega) hT)
      rw [List.all_eq_false] at h
      obtain ⟨v, hv, hb⟩ := h
      rw [← hq] at hv
      obtain ⟨p, hp, e⟩ := List.mem_map.1 hv
      have c1 := cnt_nn ds p
      have c2 : cnt ds p ≤ ds.length := cnt_le fun d hd => (hds.2.1 d hd).2.2.1
      apply hb
      rw [inB_iff, ← e]
      omega
    · rfl
  · rfl
def triW : Nat → List Int → List Int → Option (List Int × List Dg)
  | 0, l, _ => some (l, [])
  | k + 1, l, names => match ear l with
    | none => none
    | some i => (triW k (cutL l i) (names.eraseIdx i)).map fun r => (r.1, cutD names i :: r.2)
def triSW : Nat → List Int → List Int → Option (List Int × List Dg)
  | 0, l, _ => some (l, [])
  | k + 1, l, names => match ear l with
    | none => none
    | some i => if okC l i then (triSW k (cutL l i) (names.eraseIdx i)).map fun r => (r.1, cutD names i :: r.2) else none
theorem tri_W : ∀ (k : Nat) (l names : List Int), tri k l names = (triW k l names).bind fun r => if r.1 = [1, 1, 1] then some r.2 else none
  | 0, l, names => by simp [tri, triW]
  | k + 1, l, names => by
    unfold tri triW
    cases ear l with
    | none => rfl
    | some i =>
      simp only []
      rw [tri_W k]
      cases triW k (cutL l i) (names.eraseIdx i) with
      | none => rfl
      | some r => by_cases h : r.1 = [1, 1, 1] <;> simp [h]
theorem triS_W : ∀ (k : Nat) (l names : List Int), triS k l names = (triSW k l names).bind fun r => if r.1 = [1, 1, 1] then some r.2 else none
  | 0, l, names => by simp [triS, triSW]
  | k + 1, l, names => by
    unfold triS triSW
    cases ear l with
    | none => rfl
    | some i =>
      simp only []
      split
      · rw [triS_W k]
        cases triSW k (cutL l i) (names.eraseIdx i) with
        | none => rfl
        | some r => by_cases h : r.1 = [1, 1, 1] <;> simp [h]
      · rfl
theorem triW_len : ∀ (k : Nat) (l names : List Int) (r : List Int × List Dg), l.length = k + 3 → triW k l names = some r → r.1.length = 3 ∧ r.2.length = k
  | 0, l, names, r, hl, h => by
    unfold triW at h
    cases h
    exact ⟨hl, rfl⟩
  | k + 1, l, names, r, hl, h => by
    unfold triW at h
    cases he : ear l with
    | none => rw [he] at h; cases h
    | some i =>
      rw [he] at h
      obtain ⟨r', h1, h2⟩ := Option.map_eq_some_iff.1 h
      subst h2
      obtain ⟨g1, g2⟩ := triW_len k _ _ r' (by rw [cutL_length (ear_lt he).1]; omega) h1
      exact ⟨g1, by simp [g2]⟩
theorem triSW_len : ∀ (k : Nat) (l names : List Int) (r : List Int × List Dg), l.length = k + 3 → triSW k l names = some r → r.1.length = 3 ∧ r.2.length = k
  | 0, l, names, r, hl, h => by
    unfold triSW at h
    cases h
    exact ⟨hl, rfl⟩
  | k + 1, l, names, r, hl, h => by
    unfold triSW at h
    cases he : ear l with
    | none => rw [he] at h; cases h
    | some i =>
      rw [he] at h
      simp only [] at h
      split at h
      · obtain ⟨r', h1, h2⟩ := Option.map_eq_some_iff.1 h
        subst h2
        obtain ⟨g1, g2⟩ := triSW_len k _ _ r' (by rw [cutL_length (ear_lt he).1]; omega) h1
        exact ⟨g1, by simp [g2]⟩
      · cases h
theorem nb_tmod {n i : Nat} (hn : 3 ≤ n) (hn2 : n < 1000000) (hi : i < n) :
    Int.tmod (w64 ((w64 ((i : Int) + (n : Int))) - 1)) (n : Int) = (nbB n i : Int) ∧ Int.tmod (w64 ((i : Int) + 1)) (n : Int) = (nbC n i : Int) := by
  rw [w64_id (z := (i : Int) + n) (by omega) (by omega), w64_id (by omega) (by omega), w64_id (by omega) (by omega)]
  rw [Int.tmod_eq_emod_of_nonneg (by omega), Int.tmod_eq_emod_of_nonneg (by omega)]
  unfold nbB nbC
  rw [show (i : Int) + n - 1 = ((i + n - 1 : Nat) : Int) by omega, show (i : Int) + 1 = ((i + 1 : Nat) : Int) by omega]
  exact ⟨(Int.natCast_emod _ _).symm, (Int.natCast_emod _ _).symm⟩
theorem set_getD {l : List Int} {p : Nat} (h : p < l.length) : l[p]? = some (l.getD p 0) := by rw [List.getD_eq_getElem?_getD, List.getElem?_eq_getElem h]; rfl
theorem take_drop_erase {X : Type} (l : List X) (i : Nat) : l.take i ++ l.drop (i + 1) = l.eraseIdx i := (List.eraseIdx_eq_take_drop_succ l i).symm



def glueL (q : List Int) (at' : Nat) : List Int :=
  let m := q.take at' ++ 1 :: q.drop at'
  let m1 := m.set (at' - 1) (m.getD (at' - 1) 0 + 1)
  m1.set ((at' + 1) % (q.length + 1)) (m1.getD ((at' + 1) % (q.length + 1)) 0 + 1)
def gluedL0 : List (List Int) := [[1, 1, 1]]
def gluedL1 : List (List Int) := [[1, 2, 1, 2], [2, 1, 2, 1]]
def gluedL2 : List (List Int) := [[1, 2, 2, 1, 3], [1, 3, 1, 2, 2], [2, 1, 3, 1, 2], [2, 2, 1, 3, 1], [3, 1, 2, 2, 1]]
def gluedL3 : List (List Int) := [[1, 2, 2, 2, 1, 4], [1, 2, 3, 1, 2, 3], [1, 3, 1, 3, 1, 3], [1, 3, 2, 1, 3, 2], [1, 4, 1, 2, 2, 2], [2, 1, 3, 2, 1, 3], [2, 1, 4, 1, 2, 2], [2, 2, 1, 4, 1, 2], [2, 2, 2, 1, 4, 1], [2, 3, 1, 2, 3, 1], [3, 1, 2, 3, 1, 2], [3, 1, 3, 1, 3, 1], [3, 2, 1, 3, 2, 1], [4, 1, 2, 2, 2, 1]]
def gluedL4 : List (List Int) := [[1, 2, 2, 2, 2, 1, 5], [1, 2, 2, 3, 1, 2, 4], [1, 2, 3, 1, 3, 1, 4], [1, 2, 3, 2, 1, 3, 3], [1, 2, 4, 1, 2, 2, 3], [1, 3, 1, 3, 2, 1, 4], [1, 3, 1, 4, 1, 2, 3], [1, 3, 2, 1, 4, 1, 3], [1, 3, 2, 2, 1, 4, 2], [1, 3, 3, 1, 2, 3, 2], [1, 4, 1, 2, 3, 1, 3], [1, 4, 1, 3, 1, 3, 2], [1, 4, 2, 1, 3, 2, 2], [1, 5, 1, 2, 2, 2, 2], [2, 1, 3, 2, 2, 1, 4], [2, 1, 3, 3, 1, 2, 3], [2, 1, 4, 1, 3, 1, 3], [2, 1, 4, 2, 1, 3, 2], [2, 1, 5, 1, 2, 2, 2], [2, 2, 1, 4, 2, 1, 3], [2, 2, 1, 5, 1, 2, 2], [2, 2, 2, 1, 5, 1, 2], [2, 2, 2, 2, 1, 5, 1], [2, 2, 3, 1, 2, 4, 1], [2, 3, 1, 2, 4, 1, 2], [2, 3, 1, 3, 1, 4, 1], [2, 3, 2, 1, 3, 3, 1], [2, 4, 1, 2, 2, 3, 1], [3, 1, 2, 3, 2, 1, 3], [3, 1, 2, 4, 1, 2, 2], [3, 1, 3, 1, 4, 1, 2], [3, 1, 3, 2, 1, 4, 1], [3, 1, 4, 1, 2, 3, 1], [3, 2, 1, 3, 3, 1, 2], [3, 2, 1, 4, 1, 3, 1], [3, 2, 2, 1, 4, 2, 1], [3, 3, 1, 2, 3, 2, 1], [4, 1, 2, 2, 3, 1, 2], [4, 1, 2, 3, 1, 3, 1], [4, 1, 3, 1, 3, 2, 1], [4, 2, 1, 3, 2, 2, 1], [5, 1, 2, 2, 2, 2, 1]]
def gluedL5 : List (List Int) := [[1, 2, 2, 2, 2, 2, 1, 6], [1, 2, 2, 2, 3, 1, 2, 5], [1, 2, 2, 3, 1, 3, 1, 5], [1, 2, 2, 3, 2, 1, 3, 4], [1, 2, 2, 4, 1, 2, 2, 4], [1, 2, 3, 1, 3, 2, 1, 5], [1, 2, 3, 1, 4, 1, 2, 4], [1, 2, 3, 2, 1, 4, 1, 4], [1, 2, 3, 2, 2, 1, 4, 3], [1, 2, 3, 3, 1, 2, 3, 3], [1, 2, 4, 1, 2, 3, 1, 4], [1, 2, 4, 1, 3, 1, 3, 3], [1, 2, 4, 2, 1, 3, 2, 3], [1, 2, 5, 1, 2, 2, 2, 3], [1, 3, 1, 3, 2, 2, 1, 5], [1, 3, 1, 3, 3, 1, 2, 4], [1, 3, 1, 4, 1, 3, 1, 4], [1, 3, 1, 4, 2, 1, 3, 3], [1, 3, 1, 5, 1, 2, 2, 3], [1, 3, 2, 1, 4, 2, 1, 4], [1, 3, 2, 1, 5, 1, 2, 3], [1, 3, 2, 2, 1, 5, 1, 3], [1, 3, 2, 2, 2, 1, 5, 2], [1, 3, 2, 3, 1, 2, 4, 2], [1, 3, 3, 1, 2, 4, 1, 3], [1, 3, 3, 1, 3, 1, 4, 2], [1, 3, 3, 2, 1, 3, 3, 2], [1, 3, 4, 1, 2, 2, 3, 2], [1, 4, 1, 2, 3, 2, 1, 4], [1, 4, 1, 2, 4, 1, 2, 3], [1, 4, 1, 3, 1, 4, 1, 3], [1, 4, 1, 3, 2, 1, 4, 2], [1, 4, 1, 4, 1, 2, 3, 2], [1, 4, 2, 1, 3, 3, 1, 3], [1, 4, 2, 1, 4, 1, 3, 2], [1, 4, 2, 2, 1, 4, 2, 2], [1, 4, 3, 1, 2, 3, 2, 2], [1, 5, 1, 2, 2, 3, 1, 3], [1, 5, 1, 2, 3, 1, 3, 2], [1, 5, 1, 3, 1, 3, 2, 2], [1, 5, 2, 1, 3, 2, 2, 2], [1, 6, 1, 2, 2, 2, 2, 2], [2, 1, 3, 2, 2, 2, 1, 5], [2, 1, 3, 2, 3, 1, 2, 4], [2, 1, 3, 3, 1, 3, 1, 4], [2, 1, 3, 3, 2, 1, 3, 3], [2, 1, 3, 4, 1, 2, 2, 3], [2, 1, 4, 1, 3, 2, 1, 4], [2, 1, 4, 1, 4, 1, 2, 3], [2, 1, 4, 2, 1, 4, 1, 3], [2, 1, 4, 2, 2, 1, 4, 2], [2, 1, 4, 3, 1, 2, 3, 2], [2, 1, 5, 1, 2, 3, 1, 3], [2, 1, 5, 1, 3, 1, 3, 2], [2, 1, 5, 2, 1, 3, 2, 2], [2, 1, 6, 1, 2, 2, 2, 2], [2, 2, 1, 4, 2, 2, 1, 4], [2, 2, 1, 4, 3, 1, 2, 3], [2, 2, 1, 5, 1, 3, 1, 3], [2, 2, 1, 5, 2, 1, 3, 2], [2, 2, 1, 6, 1, 2, 2, 2], [2, 2, 2, 1, 5, 2, 1, 3], [2, 2, 2, 1, 6, 1, 2, 2], [2, 2, 2, 2, 1, 6, 1, 2], [2, 2, 2, 2, 2, 1, 6, 1], [2, 2, 2, 3, 1, 2, 5, 1], [2, 2, 3, 1, 2, 5, 1, 2], [2, 2, 3, 1, 3, 1, 5, 1], [2, 2, 3, 2, 1, 3, 4, 1], [2, 2, 4, 1, 2, 2, 4, 1], [2, 3, 1, 2, 4, 2, 1, 3], [2, 3, 1, 2, 5, 1, 2, 2], [2, 3, 1, 3, 1, 5, 1, 2], [2, 3, 1, 3, 2, 1, 5, 1], [2, 3, 1, 4, 1, 2, 4, 1], [2, 3, 2, 1, 3, 4, 1, 2], [2, 3, 2, 1, 4, 1, 4, 1], [2, 3, 2, 2, 1, 4, 3, 1], [2, 3, 3, 1, 2, 3, 3, 1], [2, 4, 1, 2, 2, 4, 1, 2], [2, 4, 1, 2, 3, 1, 4, 1], [2, 4, 1, 3, 1, 3, 3, 1], [2, 4, 2, 1, 3, 2, 3, 1], [2, 5, 1, 2, 2, 2, 3, 1], [3, 1, 2, 3, 2, 2, 1, 4], [3, 1, 2, 3, 3, 1, 2, 3], [3, 1, 2, 4, 1, 3, 1, 3], [3, 1, 2, 4, 2, 1, 3, 2], [3, 1, 2, 5, 1, 2, 2, 2], [3, 1, 3, 1, 4, 2, 1, 3], [3, 1, 3, 1, 5, 1, 2, 2], [3, 1, 3, 2, 1, 5, 1, 2], [3, 1, 3, 2, 2, 1, 5, 1], [3, 1, 3, 3, 1, 2, 4, 1], [3, 1, 4, 1, 2, 4, 1, 2], [3, 1, 4, 1, 3, 1, 4, 1], [3, 1, 4, 2, 1, 3, 3, 1], [3, 1, 5, 1, 2, 2, 3, 1], [3, 2, 1, 3, 3, 2, 1, 3], [3, 2, 1, 3, 4, 1, 2, 2], [3, 2, 1, 4, 1, 4, 1, 2], [3, 2, 1, 4, 2, 1, 4, 1], [3, 2, 1, 5, 1, 2, 3, 1], [3, 2, 2, 1, 4, 3, 1, 2], [3, 2, 2, 1, 5, 1, 3, 1], [3, 2, 2, 2, 1, 5, 2, 1], [3, 2, 3, 1, 2, 4, 2, 1], [3, 3, 1, 2, 3, 3, 1, 2], [3, 3, 1, 2, 4, 1, 3, 1], [3, 3, 1, 3, 1, 4, 2, 1], [3, 3, 2, 1, 3, 3, 2, 1], [3, 4, 1, 2, 2, 3, 2, 1], [4, 1, 2, 2, 3, 2, 1, 3], [4, 1, 2, 2, 4, 1, 2, 2], [4, 1, 2, 3, 1, 4, 1, 2], [4, 1, 2, 3, 2, 1, 4, 1], [4, 1, 2, 4, 1, 2, 3, 1], [4, 1, 3, 1, 3, 3, 1, 2], [4, 1, 3, 1, 4, 1, 3, 1], [4, 1, 3, 2, 1, 4, 2, 1], [4, 1, 4, 1, 2, 3, 2, 1], [4, 2, 1, 3, 2, 3, 1, 2], [4, 2, 1, 3, 3, 1, 3, 1], [4, 2, 1, 4, 1, 3, 2, 1], [4, 2, 2, 1, 4, 2, 2, 1], [4, 3, 1, 2, 3, 2, 2, 1], [5, 1, 2, 2, 2, 3, 1, 2], [5, 1, 2, 2, 3, 1, 3, 1], [5, 1, 2, 3, 1, 3, 2, 1], [5, 1, 3, 1, 3, 2, 2, 1], [5, 2, 1, 3, 2, 2, 2, 1], [6, 1, 2, 2, 2, 2, 2, 1]]
def glued : Nat → List (List Int)
  | 0 => gluedL0 | 1 => gluedL1 | 2 => gluedL2 | 3 => gluedL3 | 4 => gluedL4 | 5 => gluedL5 | _ => []
theorem glued_ok0 : ∀ q ∈ gluedL0, (trOf q).isSome = true ∧ q.length = 3 ∧ ∀ v ∈ q, 1 ≤ v ∧ v ≤ 12 := by decide +kernel
theorem glued_ok1 : ∀ q ∈ gluedL1, (trOf q).isSome = true ∧ q.length = 4 ∧ ∀ v ∈ q, 1 ≤ v ∧ v ≤ 12 := by decide +kernel
theorem glued_ok2 : ∀ q ∈ gluedL2, (trOf q).isSome = true ∧ q.length = 5 ∧ ∀ v ∈ q, 1 ≤ v ∧ v ≤ 12 := by decide +kernel
theorem glued_ok3 : ∀ q ∈ gluedL3, (trOf q).isSome = true ∧ q.length = 6 ∧ ∀ v ∈ q, 1 ≤ v ∧ v ≤ 12 := by decide +kernel
theorem glued_ok4 : ∀ q ∈ gluedL4, (trOf q).isSome = true ∧ q.length = 7 ∧ ∀ v ∈ q, 1 ≤ v ∧ v ≤ 12 := by decide +kernel
theorem glued_ok5 : ∀ q ∈ gluedL5, (trOf q).isSome = true ∧ q.length = 8 ∧ ∀ v ∈ q, 1 ≤ v ∧ v ≤ 12 := by decide +kernel
theorem glued_go0 : ∀ q ∈ gluedL0, ∀ j, j < 3 → glueL q (j + 1) ∈ gluedL1 := by decide +kernel
theorem glued_go1 : ∀ q ∈ gluedL1, ∀ j, j < 4 → glueL q (j + 1) ∈ gluedL2 := by decide +kernel
theorem glued_go2 : ∀ q ∈ gluedL2, ∀ j, j < 5 → glueL q (j + 1) ∈ gluedL3 := by decide +kernel
theorem glued_go3 : ∀ q ∈ gluedL3, ∀ j, j < 6 → glueL q (j + 1) ∈ gluedL4 := by decide +kernel
theorem glued_go4 : ∀ q ∈ gluedL4, ∀ j, j < 7 → glueL q (j + 1) ∈ gluedL5 := by decide +kernel
theorem glued_ok (k : Nat) (q : List Int) (h : q ∈ glued k) : (trOf q).isSome = true ∧ q.length = k + 3 ∧ ∀ v ∈ q, 1 ≤ v ∧ v ≤ 12 := by
  match k, h with
  | 0, h => exact glued_ok0 q h
  | 1, h => exact glued_ok1 q h
  | 2, h => exact glued_ok2 q h
  | 3, h => exact glued_ok3 q h
  | 4, h => exact glued_ok4 q h
  | 5, h => exact glued_ok5 q h
  | k + 6, h => exact absurd h (by simp [glued])
theorem glued_go (k : Nat) (hk : k < 5) (q : List Int) (h : q ∈ glued k) (j : Nat) (hj : j < k + 3) : glueL q (j + 1) ∈ glued (k + 1) := by
  match k, h with
  | 0, h => exact glued_go0 q h j hj
  | 1, h => exact glued_go1 q h j hj
  | 2, h => exact glued_go2 q h j hj
  | 3, h => exact glued_go3 q h j hj
  | 4, h => exact glued_go4 q h j hj
theorem glueL_facts {q : List Int} {at' : Nat} (h1 : 1 ≤ at') (h2 : at' ≤ q.length) (hl : 3 ≤ q.length) (hv : ∀ v ∈ q, 1 ≤ v ∧ v ≤ 12) :
    (q.take at' ++ 1 :: q.drop at').length = q.length + 1 ∧ (∀ p, p < q.length + 1 → 1 ≤ (q.take at' ++ 1 :: q.drop at').getD p 0 ∧ (q.take at' ++ 1 :: q.drop at').getD p 0 ≤ 12) ∧ (at' + 1) % (q.length + 1) < q.length + 1 ∧ (at' + 1) % (q.length + 1) ≠ at' - 1 := by
  refine ⟨by simp; omega, fun p hp => ?_, Nat.mod_lt _ (by omega), ?_⟩
  · have hlt : p < (q.take at' ++ 1 :: q.drop at').length := by simp; omega
    rw [List.getD_eq_getElem?_getD, List.getElem?_eq_getElem hlt, Option.getD_some]
    have := List.getElem_mem hlt
    rcases List.mem_append.1 this with h | h
    · exact hv _ (List.mem_of_mem_take h)
    · rcases List.mem_cons.1 h with h | h
      · rw [h]; omega
      · exact hv _ (List.mem_of_mem_drop h)
  · by_cases h : at' = q.length
    · rw [h, Nat.mod_self]; omega
    · rw [Nat.mod_eq_of_lt (by omega)]; omega
def rI (z : Int) : Int := (z * 187 + 3301) % 10007
def mkN : Nat → List Int → Int → List Int × Int
  | 0, q, z => (q, z)
  | m + 1, q, z => mkN m (glueL q ((rI z % (q.length : Int)).toNat + 1)) (rI z)
theorem rI_B (z : Int) : 0 ≤ rI z ∧ rI z < 10007 := by unfold rI; omega
theorem rI_w {z : Int} (h1 : 0 ≤ z) (h2 : z < 10007) : Int.tmod (w64 ((w64 (z * 187)) + 3301)) (10007 : Int) = rI z := by
  rw [w64_id (z := z * 187) (by omega) (by omega), w64_id (by omega) (by omega), Int.tmod_eq_emod_of_nonneg (by omega)]
  rfl
theorem mkN_facts : ∀ (m k : Nat) (q : List Int) (z : Int), q ∈ glued k → k + m ≤ 6 → 0 ≤ z → z < 10007 → ((mkN m q z).1.length = k + 3 + m ∧ ∀ v ∈ (mkN m q z).1, 1 ≤ v ∧ v ≤ 100) ∧ 0 ≤ (mkN m q z).2 ∧ (mkN m q z).2 < 10007
  | 0, k, q, z, hq, hk, h1, h2 => by
    obtain ⟨_, g1, g2⟩ := glued_ok k q hq
    exact ⟨⟨g1, fun v hv => by have := g2 v hv; omega⟩, h1, h2⟩
  | m + 1, k, q, z, hq, hk, h1, h2 => by
    obtain ⟨g0, g1, g2⟩ := glued_ok k q hq
    have hr := rI_B z
    have hj : (rI z % (q.length : Int)).toNat < k + 3 := by have := Int.emod_lt_of_pos (rI z) (show (0 : Int) < (q.length : Int) by omega); omega
    by_cases h5 : k < 5
    · have ih := mkN_facts m (k + 1) (glueL q ((rI z % (q.length : Int)).toNat + 1)) (rI z) (glued_go k h5 q hq _ hj) (by omega) hr.1 hr.2
      refine ⟨⟨?_, ih.1.2⟩, ih.2⟩
      show (mkN m _ _).1.length = _
      rw [ih.1.1]; omega
    · have hm0 : m = 0 := by omega
      subst hm0
      show (((glueL q _).length = _ ∧ ∀ v ∈ glueL q _, _) ∧ _)
      generalize (rI z % (q.length : Int)).toNat = j at hj
      obtain ⟨f1, f2, f3, f4⟩ := glueL_facts (q := q) (at' := j + 1) (by omega) (by omega) (by omega) g2
      refine ⟨⟨?_, fun v hv => ?_⟩, hr⟩
      · unfold glueL; simp only [List.length_set, f1]; omega
      · unfold glueL at hv
        simp only [] at hv
        generalize q.take (j + 1) ++ 1 :: q.drop (j + 1) = w at *
        have hw : ∀ x ∈ w, 1 ≤ x ∧ x ≤ 12 := fun x hx => by
          obtain ⟨p, hp, e⟩ := List.getElem_of_mem hx
          have := f2 p (by omega)
          rwa [List.getD_eq_getElem?_getD, List.getElem?_eq_getElem hp, Option.getD_some, e] at this
        have b1 := f2 (j + 1 - 1) (by omega)
        rcases List.mem_or_eq_of_mem_set hv with h | h
        · rcases List.mem_or_eq_of_mem_set h with h | h
          · have := hw v h; omega
          · omega
        · have b2 := f2 ((j + 1 + 1) % (q.length + 1)) f3
          simp only [List.getD_eq_getElem?_getD] at h b1 b2
          rw [List.getElem?_set_ne (Ne.symm f4)] at h
          omega
def plG (q : List Int) (acc : List Int) (j : Nat) : List Int := if q.getD j 0 > 0 then acc ++ [(j : Int)] else acc
def pl (q : List Int) : List Int := (List.range q.length).foldl (plG q) []
theorem pl_go (q : List Int) : ∀ (l : List Nat) (acc : List Int), l.foldl (plG q) acc = acc ++ (l.filter (fun j => decide (q.getD j 0 > 0))).map (fun (j : Nat) => (j : Int))
  | [], acc => by simp
  | j :: l, acc => by
    rw [List.foldl_cons, pl_go q l, List.filter_cons]
    unfold plG
    by_cases h : q.getD j 0 > 0
    · simp only [h, decide_true, if_true, List.map_cons, List.append_assoc, List.cons_append, List.nil_append]
    · simp only [h, decide_false, Bool.false_eq_true, if_false]
theorem pl_eq (q : List Int) : pl q = ((List.range q.length).filter (fun j => decide (q.getD j 0 > 0))).map (fun (j : Nat) => (j : Int)) := by
  unfold pl
  rw [pl_go, List.nil_append]
theorem pl_mem {q : List Int} {x : Int} (h : x ∈ pl q) : 0 ≤ x ∧ x < q.length ∧ q.getD x.toNat 0 > 0 := by
  rw [pl_eq] at h
  obtain ⟨j, hj, e⟩ := List.mem_map.1 h
  obtain ⟨h1, h2⟩ := List.mem_filter.1 hj
  have := List.mem_range.1 h1
  subst e
  have h2 := of_decide_eq_true h2
  rw [Int.toNat_natCast]
  exact ⟨by omega, by omega, h2⟩
theorem pl_len (q : List Int) : (pl q).length = q.countP (fun v => decide (v > 0)) := by
  rw [pl_eq, List.length_map, ← List.countP_eq_length_filter]
  have : q = (List.range q.length).map (fun j => q.getD j 0) := by
    refine List.ext_getElem (by simp) fun p hp _ => ?_
    simp [List.getD_eq_getElem?_getD, hp]
  conv => rhs; rw [this]
  rw [List.countP_map]
  rfl
theorem pl_set {q : List Int} {x : Int} (h : x ∈ pl q) : (pl (q.set x.toNat 0)).length + 1 = (pl q).length := by
  obtain ⟨h1, h2, h3⟩ := pl_mem h
  have hlt : x.toNat < q.length := by omega
  rw [pl_len, pl_len, List.countP_set hlt]
  rw [List.getD_eq_getElem?_getD, List.getElem?_eq_getElem hlt, Option.getD_some] at h3
  have hp : 0 < q.countP (fun v => decide (v > 0)) := List.countP_pos_iff.2 ⟨_, List.getElem_mem hlt, by simpa using h3⟩
  have h0 : ¬ ((0 : Int) > 0) := by omega
  simp only [h3, h0, decide_true, if_true, decide_false, Bool.false_eq_true, if_false]
  omega
def gapN : Nat → List Int → Int → List Int
  | 0, q, _ => q
  | m + 1, q, z => gapN m (q.set ((pl q).getD (rI z % ((pl q).length : Int)).toNat 0).toNat 0) (rI z)
theorem gapN_len : ∀ (m : Nat) (q : List Int) (z : Int), (gapN m q z).length = q.length
  | 0, q, z => rfl
  | m + 1, q, z => by unfold gapN; rw [gapN_len]; simp
def mkPz (n gaps seed : Int) : Bool × List Int :=
  if inB 3 9 n && inB 0 n gaps && inB 0 9999 seed then
    let r := mkN (n - 3).toNat [1, 1, 1] seed
    (true, gapN gaps.toNat r.1 r.2)
  else (false, [])
theorem pl_pick {q : List Int} {z : Int} (h : 0 < (pl q).length) : 0 ≤ rI z % ((pl q).length : Int) ∧ rI z % ((pl q).length : Int) < ((pl q).length : Int) ∧ (pl q)[(rI z % ((pl q).length : Int)).toNat]? = some ((pl q).getD (rI z % ((pl q).length : Int)).toNat 0) ∧ (pl q).getD (rI z % ((pl q).length : Int)).toNat 0 ∈ pl q := by
  have h1 := Int.emod_nonneg (rI z) (show ((pl q).length : Int) ≠ 0 by omega)
  have h2 := Int.emod_lt_of_pos (rI z) (show (0 : Int) < ((pl q).length : Int) by omega)
  have h3 : (rI z % ((pl q).length : Int)).toNat < (pl q).length := by omega
  exact ⟨h1, h2, set_getD h3, List.mem_of_getElem? (set_getD h3)⟩
theorem mk_start (n : Int) (hn : inB 3 9 n = true) (s : Int) (hs : inB 0 9999 s = true) : ∃ m : Nat, (n - 3).toNat = m ∧ m ≤ 6 ∧ ((0 + 3 + m : Nat) : Int) = n ∧ 0 ≤ s ∧ s < 10007 ∧ [1, 1, 1] ∈ glued 0 := by
  rw [inB_iff] at hn hs
  exact ⟨(n - 3).toNat, rfl, by omega, by omega, by omega, by omega, by simp [glued, gluedL0]⟩
theorem pl_full {q : List Int} (h : ∀ v ∈ q, 1 ≤ v ∧ v ≤ 100) : (pl q).length = q.length := by
  rw [pl_len, List.countP_eq_length]
  intro v hv
  have := h v hv
  simp; omega
theorem mkPz_len (n g s : Int) : (mkPz n g s).2.length ≤ 9 := by
  unfold mkPz
  split
  · rename_i h
    rw [Bool.and_eq_true, Bool.and_eq_true] at h
    obtain ⟨⟨hn, hg⟩, hs⟩ := h
    obtain ⟨m, m1, m2, m3, s1, s2, hq⟩ := mk_start n hn s hs
    obtain ⟨⟨f1, f2⟩, f3, f4⟩ := mkN_facts m 0 [1, 1, 1] s hq (by omega) s1 s2
    simp only [gapN_len, m1, f1]
    omega
  · simp


def F53_sh : FSh := ⟨[(.one (.si .i64)), (.one (.pf 0 0 0))], [(.rcd 0 [(.si .i64)])]⟩

def F53_fo : List FO := [⟨[(.one (.si .i64))], [(.rcd 0 [(.si .i64)])]⟩]
noncomputable def F53_t : ((Int × Unit) × Int) → T (Int × Int) := fun ((n, ()), t1_0) =>
 (.test true
 (.test (decide (n ≠ 0))
 (.ret ((Int.tmod (Int.tmod (w64 ((w64 (t1_0 * 187)) + 3301)) (10007 : Int)) n), (Int.tmod (w64 ((w64 (t1_0 * 187)) + 3301)) (10007 : Int))))
 .fail)
 .fail)
noncomputable def F53 (v : ((Int × Unit) × Int)) : Option (Int × Int) := (F53_t v).run
noncomputable def F53_E : TEnv := E0
theorem F53_Eok : (F53_E).OK := E0ok
noncomputable def F53_told : Nat → Option SealT := fun id => none
theorem F53_ok : FOK Tryz.prog n_F53 F53_sh F53_fo F53 :=
  fn_ok (E := F53_E) (F53_Eok) (told := F53_told) (fl := []) (c := bodyOf fn_F53) (s := F53_sh) (l := F53_fo) (tree := F53_t) fnat_F53 (by kernel_rfl) (by kernel_rfl) (by kernel_rfl) (loopsOK_of (ls := []) (by kernel_rfl) trivial) (fun v => by kernel_rfl)

theorem F53_eq (n z : Int) (hn : 0 < n) (h1 : 0 ≤ z) (h2 : z < 10007) : F53 ((n, ()), z) = some (rI z % n, rI z) := by
  have := rI_B z
  simp only [F53, F53_t, T.run, rI_w h1 h2]
  rw [Int.tmod_eq_emod_of_nonneg (by omega)]
  simp
  omega


def F79_sh : FSh := ⟨[(.one (.si .i64))], []⟩

def F79_fo : List FO := [⟨[(.one .sb)], []⟩]
noncomputable def F79_t : Int → T Bool := fun n =>
 (.sub (F98 (n, ((3 : Int), (12 : Int)))) fun z0 =>
 (.ret z0))
noncomputable def F79 (v : Int) : Option Bool := (F79_t v).run
noncomputable def F79_E : TEnv := (E0.add1 n_F98 F98_sh F98_fo F98)
theorem F79_Eok : (F79_E).OK := (E0ok.add1 F98_ok)
noncomputable def F79_told : Nat → Option SealT := fun id => none
theorem F79_ok : FOK Tryz.prog n_F79 F79_sh F79_fo F79 :=
  fn_ok (E := F79_E) (F79_Eok) (told := F79_told) (fl := []) (c := bodyOf fn_F79) (s := F79_sh) (l := F79_fo) (tree := F79_t) fnat_F79 (by kernel_rfl) (by kernel_rfl) (by kernel_rfl) (loopsOK_of (ls := []) (by kernel_rfl) trivial) (fun v => by kernel_rfl)

def F43_sh : FSh := ⟨[.one (.sl (.int .i64) false false)], []⟩
def F43_fo : List FO := [⟨[.one (.rw 0 0)], [.row 0 (.int .i64)]⟩]
def F43 (v : List Int) : Option (Unit × List Int) := if v.length ≤ maxLen ∧ v.length * 8 ≤ 140737488355328 then some ((), v) else none
def F43_ren : Shelf.Ren := ⟨fun _ => n_F43, fun t => if t = 4 then 4 else if t = 22 then 24 else 3, fun x => x⟩
theorem F43_lay : SlLaysE0.n41 Tryz.prog F43_ren :=
  { mixed := by kernel_rfl, f41 := ⟨"slices.Clone[[]int,int]", by kernel_rfl, by kernel_rfl⟩, t4 := by kernel_rfl, a4 := fun w => by kernel_rfl, z4 := fun w => by kernel_rfl, v4 := fun w => by kernel_rfl, t22 := by kernel_rfl, a22 := fun w => by kernel_rfl, z22 := fun w => by kernel_rfl, v22 := fun w => by kernel_rfl }
noncomputable def F43_info : TypeInfo := (Tryz.prog.info? 3).get (by kernel_rfl)
theorem F43_ok : FOK Tryz.prog n_F43 F43_sh F43_fo F43 :=
  clone_ok (e := .int .i64) ⟨_, fnat_F43, by kernel_rfl, by kernel_rfl⟩ (ρr := F43_ren) rfl F43_lay rfl F43_info (.int .i64 0) 8 (by kernel_rfl) (by kernel_rfl) (by kernel_rfl) (by kernel_rfl) (by decide) (by decide) (fun w => by kernel_rfl)

def F44_sh : FSh := ⟨[(.one (.sl (.int .i64) false false)), (.one (.si .i64))], []⟩

def F44_L2_sh : LSh := ⟨(fun ex => match ex with | .norm => [(0, none), (1, none), (7, none), (8, none)] | .exit i => if i = 0 then [] else [] | .ret => [(4, none)]), [(0, (.one (.sl (.int .i64) false false))), (1, (.one (.si .i64))), (7, (.one (.si .i64))), (8, (.one (.si .i64)))], [], [⟨.ret, [(4, (.one (.si .i64)))], []⟩, ⟨(.exit 0), [], []⟩], [], []⟩
noncomputable def F44_L2_step : (List (Int) × Int × Int × Int) → T ((List (Int) × Int × Int × Int) ⊕ (Int ⊕ Unit)) := fun (s, v, t7, t8) =>
 (.test (decide (t8 < t7))
 (.test (decide ((0 ≤ t8) ∧ (t8 < ((List.length s) : Int))))
 (.sub (s[(Int.toNat t8)]?) fun z0 =>
 (.test (v == z0)
 (.ret (Sum.inr (Sum.inl t8)))
 (.ret (Sum.inl (s, (v, (t7, (w64 (t8 + 1)))))))))
 .fail)
 (.ret (Sum.inr (Sum.inr ()))))
noncomputable def F44_L2 (v : (List (Int) × Int × Int × Int)) : Option (Int ⊕ Unit) := loopO (fun v => (F44_L2_step v).run) v

def F44_fo : List FO := [⟨[(.one (.si .i64))], []⟩]
noncomputable def F44_t : (List (Int) × Int) → T Int := fun (s, v) =>
 (.sub (F44_L2 (s, (v, (((List.length s) : Int), (0 : Int))))) fun z0 =>
 (.test (Sum.isLeft z0)
 (.sub (Sum.getLeft? z0) fun z1 =>
 (.ret z1))
 (.sub (Sum.getRight? z0) fun z2 =>
 (.ret (-1)))))
noncomputable def F44 (v : (List (Int) × Int)) : Option Int := (F44_t v).run
noncomputable def F44_E : TEnv := E0
theorem F44_Eok : (F44_E).OK := E0ok
noncomputable def F44_told : Nat → Option SealT := fun id => if id = 2 then some (LSh.told F44_L2_sh 0 (F44_L2_step)) else none
theorem F44_L2_ok : ToldOK Tryz.prog 0 (loopAt (bodyOf fn_F44) [0]) (LSh.told F44_L2_sh 0 (F44_L2_step)) :=
  loop_ok (E := F44_E) (F44_Eok) (told := F44_told) (l := F44_L2_sh) (step := F44_L2_step) (loopsOK_of (ls := []) (by kernel_rfl) trivial) (by kernel_rfl) (fun v => by kernel_rfl)
theorem F44_ok : FOK Tryz.prog n_F44 F44_sh F44_fo F44 :=
  fn_ok (E := F44_E) (F44_Eok) (told := F44_told) (fl := []) (c := bodyOf fn_F44) (s := F44_sh) (l := F44_fo) (tree := F44_t) fnat_F44 (by kernel_rfl) (by kernel_rfl) (by kernel_rfl) (loopsOK_of (ls := [loopAt (bodyOf fn_F44) [0]]) (by kernel_rfl) ⟨.inr ⟨_, by kernel_rfl, F44_L2_ok⟩, trivial⟩) (fun v => by kernel_rfl)

theorem F44_eq (s : List Int) (v : Int) (hl : s.length < 4611686018427387904) : F44 (s, v) = some (idxI (fun x => v == x) s) := by
  have h := loop_find (step := fun v => (F44_L2_step v).run) (xs := s) (fun x => v == x) (fun k => (s, (v, ((s.length : Int), (k : Int))))) (fun k => .inl (k : Int)) (.inr ())
    (fun k x hx => by
      have hlt := getElem?_lt hx
      have h1 : (k : Int) < (s.length : Int) := by omega
      have h2 : (0 : Int) ≤ k ∧ (k : Int) < (s.length : Int) := by omega
      simp only [F44_L2_step, T.run, Int.toNat_natCast, hx, Option.bind_some, h1, h2, decide_true, if_true, and_self]
      rw [w64_id (z := (k : Int) + 1) (by omega) (by omega)]
      cases hv : (v == x) <;> simp [hv])
    (by simp [F44_L2_step, T.run])
  rw [show ((0 : Nat) : Int) = 0 from rfl] at h
  simp only [F44, F44_t, T.run, F44_L2]
  rw [h]
  simp only [idxI]
  cases hf : s.findIdx? (fun x => v == x) <;> simp [Sum.isLeft, hf]


def F36_sh : FSh := ⟨[.one (.rw 0 0), .one (.si .i64), .one (.si .i64)], [.row 0 (.int .i64)]⟩
def F36_fo : List FO := [⟨[.one (.rw 0 0)], [.row 0 (.int .i64)]⟩]
def F36 (v : (Unit × Int × Int) × List Int) : Option (Unit × List Int) := if 0 ≤ v.1.2.1 ∧ v.1.2.1 < v.1.2.2 ∧ v.1.2.2 ≤ (v.2.length : Int) ∧ v.2.length ≤ 4611686018427387904 then some ((), v.2.take v.1.2.1.toNat ++ v.2.drop v.1.2.2.toNat) else none
def F36_ren : Shelf.Ren := ⟨fun _ => n_F36, fun t => if t = 0 then 0 else if t = 3 then 3 else if t = 4 then 4 else if t = 22 then 24 else 3, fun x => x⟩
theorem F36_lay : SlLaysE0.n45 Tryz.prog F36_ren :=
  { mixed := by kernel_rfl, f45 := ⟨"slices.Delete[[]int,int]", by kernel_rfl, by kernel_rfl⟩, t0 := by kernel_rfl, a0 := fun w => by kernel_rfl, z0 := fun w => by kernel_rfl, v0 := fun w => by kernel_rfl, t3 := by kernel_rfl, a3 := fun w => by kernel_rfl, z3 := fun w => by kernel_rfl, v3 := fun w => by kernel_rfl, t4 := by kernel_rfl, a4 := fun w => by kernel_rfl, z4 := fun w => by kernel_rfl, v4 := fun w => by kernel_rfl, t22 := by kernel_rfl, a22 := fun w => by kernel_rfl, z22 := fun w => by kernel_rfl, v22 := fun w => by kernel_rfl }
noncomputable def F36_info : TypeInfo := (Tryz.prog.info? 3).get (by kernel_rfl)
theorem F36_ok : FOK Tryz.prog n_F36 F36_sh F36_fo F36 :=
  delete_ok ⟨_, fnat_F36, by kernel_rfl, by kernel_rfl⟩ (ρr := F36_ren) rfl F36_lay (fun w => by kernel_rfl) (fun w => by kernel_rfl) (fun w => by kernel_rfl) F36_info (by kernel_rfl) (by kernel_rfl)

def F61_sh : FSh := ⟨[.one (.si .u64)], []⟩
def F61_fo : List FO := [⟨[.one (.si .i64)], []⟩]
def F61 (x : Int) : Option Int := if 0 ≤ x ∧ x ≤ 18446744073709551615 then some (Lib.bitLen x.toNat : Int) else none
def F61_ren : Shelf.Ren := ⟨fun k => if k = 125 then n_F61 else if k = 128 then 251 else 252, fun t => if t = 3 then 3 else if t = 4 then 4 else if t = 5 then 5 else if t = 9 then 9 else if t = 46 then 170 else if t = 51 then 190 else 119, fun x => x⟩
theorem F61_lay : Lays.n125 Tryz.prog F61_ren :=
  { mixed := by kernel_rfl, f125 := by kernel_rfl, f128 := by kernel_rfl, f129 := by kernel_rfl, t3 := by kernel_rfl, a3 := fun w => by kernel_rfl, z3 := fun w => by kernel_rfl, v3 := fun w => by kernel_rfl, t4 := by kernel_rfl, a4 := fun w => by kernel_rfl, z4 := fun w => by kernel_rfl, v4 := fun w => by kernel_rfl, t5 := by kernel_rfl, a5 := fun w => by kernel_rfl, z5 := fun w => by kernel_rfl, v5 := fun w => by kernel_rfl, t9 := by kernel_rfl, a9 := fun w => by kernel_rfl, z9 := fun w => by kernel_rfl, v9 := fun w => by kernel_rfl, t46 := by kernel_rfl, a46 := fun w => by kernel_rfl, z46 := fun w => by kernel_rfl, v46 := fun w => by kernel_rfl, t51 := by kernel_rfl, a51 := fun w => by kernel_rfl, z51 := fun w => by kernel_rfl, v51 := fun w => by kernel_rfl, t53 := by kernel_rfl, a53 := fun w => by kernel_rfl, z53 := fun w => by kernel_rfl, v53 := fun w => by kernel_rfl }
theorem F61_ok : FOK Tryz.prog n_F61 F61_sh F61_fo F61 :=
  bitsLen_ok ⟨_, fnat_F61, by kernel_rfl, by kernel_rfl⟩ (ρr := F61_ren) rfl F61_lay

def F62_sh : FSh := ⟨[(.one (.si .i64))], []⟩

def F62_fo : List FO := [⟨[(.one .sb)], []⟩]
noncomputable def F62_t : Int → T Bool := fun x =>
 (.ret (x != x))
noncomputable def F62 (v : Int) : Option Bool := (F62_t v).run
noncomputable def F62_E : TEnv := E0
theorem F62_Eok : (F62_E).OK := E0ok
noncomputable def F62_told : Nat → Option SealT := fun id => none
theorem F62_ok : FOK Tryz.prog n_F62 F62_sh F62_fo F62 :=
  fn_ok (E := F62_E) (F62_Eok) (told := F62_told) (fl := []) (c := bodyOf fn_F62) (s := F62_sh) (l := F62_fo) (tree := F62_t) fnat_F62 (by kernel_rfl) (by kernel_rfl) (by kernel_rfl) (loopsOK_of (ls := []) (by kernel_rfl) trivial) (fun v => by kernel_rfl)

def F49_sh : FSh := ⟨[(.one (.si .i64)), (.one (.si .i64))], []⟩

def F49_fo : List FO := [⟨[(.one (.si .i64))], []⟩]
noncomputable def F49_t : (Int × Int) → T Int := fun (x, y) =>
 (.sub (F62 x) fun z0 =>
 (.sub (F62 y) fun z1 =>
 (.test z0
 (.test z1
 (.ret (0 : Int))
 (.ret (-1)))
 (.test z1
 (.ret (1 : Int))
 (.test (decide (x < y))
 (.ret (-1))
 (.test (decide (x > y))
 (.ret (1 : Int))
 (.ret (0 : Int))))))))
noncomputable def F49 (v : (Int × Int)) : Option Int := (F49_t v).run
noncomputable def F49_E : TEnv := (E0.add1 n_F62 F62_sh F62_fo F62)
theorem F49_Eok : (F49_E).OK := (E0ok.add1 F62_ok)
noncomputable def F49_told : Nat → Option SealT := fun id => none
theorem F49_ok : FOK Tryz.prog n_F49 F49_sh F49_fo F49 :=
  fn_ok (E := F49_E) (F49_Eok) (told := F49_told) (fl := []) (c := bodyOf fn_F49) (s := F49_sh) (l := F49_fo) (tree := F49_t) fnat_F49 (by kernel_rfl) (by kernel_rfl) (by kernel_rfl) (loopsOK_of (ls := []) (by kernel_rfl) trivial) (fun v => by kernel_rfl)

theorem F49_eq (a b : Int) : F49 (a, b) = some (if a < b then -1 else if b < a then 1 else 0) := by
  have h : ∀ x, F62 x = some false := fun x => by simp [F62, F62_t, T.run]
  simp only [F49, F49_t, T.run, h, Option.bind_some]
  by_cases h1 : a < b
  · simp [h1]
  · by_cases h2 : b < a <;> simp [h1, h2]


def F84_sh : FSh := ⟨[(.one (.sl (.int .i64) false false))], []⟩

def F84_L3_sh : LSh := ⟨(fun ex => match ex with | .norm => [(3, none), (6, none), (7, none), (8, none)] | .exit i => if i = 0 then [(3, none)] else [] | .ret => [(2, none)]), [(3, (.one (.si .i64))), (6, (.one (.sl (.int .i64) false false))), (7, (.one (.si .i64))), (8, (.one (.si .i64)))], [], [⟨.ret, [(2, (.one (.si .i64)))], []⟩, ⟨(.exit 0), [(3, (.one (.si .i64)))], []⟩], [], []⟩
noncomputable def F84_L3_step : (Int × List (Int) × Int × Int) → T ((Int × List (Int) × Int × Int) ⊕ (Int ⊕ Int)) := fun (zero, t6, t7, t8) =>
 (.test (decide (t8 < t7))
 (.test (decide ((0 ≤ t8) ∧ (t8 < ((List.length t6) : Int))))
 (.sub (t6[(Int.toNat t8)]?) fun z0 =>
 (.test (z0 != zero)
 (.ret (Sum.inr (Sum.inl z0)))
 (.ret (Sum.inl (zero, (t6, (t7, (w64 (t8 + 1)))))))))
 .fail)
 (.ret (Sum.inr (Sum.inr zero))))
noncomputable def F84_L3 (v : (Int × List (Int) × Int × Int)) : Option (Int ⊕ Int) := loopO (fun v => (F84_L3_step v).run) v

def F84_fo : List FO := [⟨[(.one (.si .i64))], []⟩]
noncomputable def F84_t : List (Int) → T Int := fun vals =>
 (.sub (F84_L3 ((0 : Int), (vals, (((List.length vals) : Int), (0 : Int))))) fun z0 =>
 (.test (Sum.isLeft z0)
 (.sub (Sum.getLeft? z0) fun z1 =>
 (.ret z1))
 (.sub (Sum.getRight? z0) fun z2 =>
 (.ret z2))))
noncomputable def F84 (v : List (Int)) : Option Int := (F84_t v).run
noncomputable def F84_E : TEnv := E0
theorem F84_Eok : (F84_E).OK := E0ok
noncomputable def F84_told : Nat → Option SealT := fun id => if id = 3 then some (LSh.told F84_L3_sh 0 (F84_L3_step)) else none
theorem F84_L3_ok : ToldOK Tryz.prog 0 (loopAt (bodyOf fn_F84) [0]) (LSh.told F84_L3_sh 0 (F84_L3_step)) :=
  loop_ok (E := F84_E) (F84_Eok) (told := F84_told) (l := F84_L3_sh) (step := F84_L3_step) (loopsOK_of (ls := []) (by kernel_rfl) trivial) (by kernel_rfl) (fun v => by kernel_rfl)
theorem F84_ok : FOK Tryz.prog n_F84 F84_sh F84_fo F84 :=
  fn_ok (E := F84_E) (F84_Eok) (told := F84_told) (fl := []) (c := bodyOf fn_F84) (s := F84_sh) (l := F84_fo) (tree := F84_t) fnat_F84 (by kernel_rfl) (by kernel_rfl) (by kernel_rfl) (loopsOK_of (ls := [loopAt (bodyOf fn_F84) [0]]) (by kernel_rfl) ⟨.inr ⟨_, by kernel_rfl, F84_L3_ok⟩, trivial⟩) (fun v => by kernel_rfl)

theorem F84_two (a b : Int) : F84 [a, b] = some (if a = 0 then b else a) := by
  simp only [F84, F84_t, T.run, F84_L3]
  rw [loopO_step]
  simp only [F84_L3_step, T.run]
  by_cases ha : a = 0
  · subst ha
    simp [w64_id (z := 1)]
    rw [loopO_step]
    simp only [F84_L3_step, T.run]
    by_cases hb : b = 0
    · subst hb
      simp [w64_id (z := 2)]
      rw [loopO_step]
      simp [F84_L3_step, T.run]
    · simp [hb]
  · simp [ha]


def F32_sh : FSh := ⟨[(.ag [(.si .i64), (.si .i64)]), (.ag [(.si .i64), (.si .i64)])], []⟩

def F32_fo : List FO := [⟨[(.one (.si .i64))], []⟩]
noncomputable def F32_t : ((Int × Int) × (Int × Int)) → T Int := fun ((a_0, a_1), (b_0, b_1)) =>
 (.sub (F49 (a_0, b_0)) fun z0 =>
 (.sub (F49 (a_1, b_1)) fun z1 =>
 (.test (decide (2 ≤ (List.length (List.set (List.set (List.replicate 2 (0 : Int)) 0 z0) 1 z1))))
 (.sub (F84 (win (List.set (List.set (List.replicate 2 (0 : Int)) 0 z0) 1 z1) 0 2)) fun z2 =>
 (.ret z2))
 .fail)))
noncomputable def F32 (v : ((Int × Int) × (Int × Int))) : Option Int := (F32_t v).run
noncomputable def F32_E : TEnv := ((E0.add1 n_F49 F49_sh F49_fo F49).add1 n_F84 F84_sh F84_fo F84)
theorem F32_Eok : (F32_E).OK := ((E0ok.add1 F49_ok).add1 F84_ok)
noncomputable def F32_told : Nat → Option SealT := fun id => none
theorem F32_ok : FOK Tryz.prog n_F32 F32_sh F32_fo F32 :=
  fn_ok (E := F32_E) (F32_Eok) (told := F32_told) (fl := []) (c := bodyOf fn_F32) (s := F32_sh) (l := F32_fo) (tree := F32_t) fnat_F32 (by kernel_rfl) (by kernel_rfl) (by kernel_rfl) (loopsOK_of (ls := []) (by kernel_rfl) trivial) (fun v => by kernel_rfl)

theorem F32_eq (d e : Dg) : F32 (d, e) = some (cmpD d e) := by
  obtain ⟨a, b⟩ := d
  obtain ⟨c, f⟩ := e
  have h2 : win (List.set (List.set (List.replicate 2 (0 : Int)) 0 (if a < c then -1 else if c < a then 1 else 0)) 1 (if b < f then -1 else if f < b then 1 else 0)) 0 2 = [if a < c then -1 else if c < a then 1 else 0, if b < f then -1 else if f < b then 1 else 0] := rfl
  simp only [F32, F32_t, T.run, F49_eq, Option.bind_some, h2, F84_two]
  simp only [List.length_set, List.length_replicate, Nat.le_refl, decide_true, if_true]
  congr 1
  unfold cmpD ltD
  simp only [decide_eq_true_eq]
  split <;> split <;> (try split) <;> (try split) <;> omega
theorem cmpD_lt (d e : Dg) : decide (cmpD d e < 0) = ltD d e := by
  unfold cmpD
  cases ltD d e <;> simp
  split <;> omega
theorem cmpD_ge (d e : Dg) : decide (cmpD d e ≥ 0) = !ltD d e := by
  unfold cmpD
  cases ltD d e <;> simp
  split <;> omega


def F0_sh : FSh := ⟨[(.one (.rw 0 0)), (.one (.si .i64)), (.one (.si .i64)), (.one (.fn n_F32))], [(.row 0 (.pair (.int .i64) (.int .i64)))]⟩

def F0_L4_sh : LSh := ⟨(fun ex => match ex with | .norm => [(0, none), (1, none), (2, none), (3, none), (8, none), (9, none)] | .exit i => if i = 2 then [(0, none), (1, none), (2, none), (3, none), (8, none)] else if i = 1 then [(0, none), (1, none), (2, none), (3, none), (8, none)] else if i = 0 then [] else [] | .ret => []), [(0, (.one (.rw 0 0))), (1, (.one (.si .i64))), (2, (.one (.si .i64))), (3, (.one (.fn n_F32))), (8, (.one (.si .i64))), (9, (.one (.si .i64)))], [(.row 0 (.pair (.int .i64) (.int .i64)))], [⟨(.exit 2), [(0, (.one (.rw 0 0))), (1, (.one (.si .i64))), (2, (.one (.si .i64))), (3, (.one (.fn n_F32))), (8, (.one (.si .i64)))], [(.row 0 (.pair (.int .i64) (.int .i64)))]⟩], [], []⟩
noncomputable def F0_L4_step : ((Unit × Int × Int × Unit × Int × Int) × List ((Int × Int))) → T (((Unit × Int × Int × Unit × Int × Int) × List ((Int × Int))) ⊕ ((Unit × Int × Int × Unit × Int) × List ((Int × Int)))) := fun (((), a, b, (), i, j), data) =>
 (.test (decide (j > a))
 (.test (decide ((0 ≤ j) ∧ (j < ((List.length data) : Int))))
 (.sub (data[(0 + (Int.toNat j))]?) fun z0 =>
 (.test (decide ((0 ≤ (w64 (j - 1))) ∧ ((w64 (j - 1)) < ((List.length data) : Int))))
 (.sub (data[(0 + (Int.toNat (w64 (j - 1))))]?) fun z1 =>
 (.sub (F32 ((z0.1, z0.2), (z1.1, z1.2))) fun z2 =>
 (.test (decide (z2 < 0))
 (.test (decide ((0 ≤ (w64 (j - 1))) ∧ ((w64 (j - 1)) < ((List.length data) : Int))))
 (.sub (data[(0 + (Int.toNat (w64 (j - 1))))]?) fun z3 =>
 (.test (decide ((0 ≤ j) ∧ (j < ((List.length data) : Int))))
 (.sub (data[(0 + (Int.toNat j))]?) fun z4 =>
 (.test (decide ((0 ≤ j) ∧ (j < ((List.length data) : Int))))
 (.sub (data[(0 + (Int.toNat j))]?) fun z5 =>
 (.test (decide ((0 ≤ (w64 (j - 1))) ∧ ((w64 (j - 1)) < ((List.length data) : Int))))
 (.sub ((List.set data (0 + (Int.toNat j)) (z3.1, z3.2))[(0 + (Int.toNat (w64 (j - 1))))]?) fun z6 =>
 (.test (decide ((0 = 0) ∧ ((List.length data) = (List.length (List.set (List.set data (0 + (Int.toNat j)) (z3.1, z3.2)) (0 + (Int.toNat (w64 (j - 1)))) (z4.1, z4.2))))))
 (.ret (Sum.inl (((), (a, (b, ((), (i, (w64 (j - 1))))))), (List.set (List.set data (0 + (Int.toNat j)) (z3.1, z3.2)) (0 + (Int.toNat (w64 (j - 1)))) (z4.1, z4.2)))))
 .fail))
 .fail))
 .fail))
 .fail))
 .fail)
 (.test (decide ((0 = 0) ∧ ((List.length data) = (List.length data))))
 (.ret (Sum.inr (((), (a, (b, ((), i)))), data)))
 .fail))))
 .fail))
 .fail)
 (.test (decide ((0 = 0) ∧ ((List.length data) = (List.length data))))
 (.ret (Sum.inr (((), (a, (b, ((), i)))), data)))
 .fail))
noncomputable def F0_L4 (v : ((Unit × Int × Int × Unit × Int × Int) × List ((Int × Int)))) : Option ((Unit × Int × Int × Unit × Int) × List ((Int × Int))) := loopO (fun v => (F0_L4_step v).run) v

def F0_L1_sh : LSh := ⟨(fun ex => match ex with | .norm => [(0, none), (1, none), (2, none), (3, none), (8, none)] | .exit i => if i = 0 then [] else [] | .ret => []), [(0, (.one (.rw 0 0))), (1, (.one (.si .i64))), (2, (.one (.si .i64))), (3, (.one (.fn n_F32))), (8, (.one (.si .i64)))], [(.row 0 (.pair (.int .i64) (.int .i64)))], [⟨(.exit 0), [], [(.row 0 (.pair (.int .i64) (.int .i64)))]⟩], [], []⟩
noncomputable def F0_L1_step : ((Unit × Int × Int × Unit × Int) × List ((Int × Int))) → T (((Unit × Int × Int × Unit × Int) × List ((Int × Int))) ⊕ (Unit × List ((Int × Int)))) := fun (((), a, b, (), i), data) =>
 (.test (decide (i < b))
 (.test (decide ((0 = 0) ∧ ((List.length data) = (List.length data))))
 (.sub (F0_L4 (((), (a, (b, ((), (i, i))))), data)) fun z0 =>
 (.test (decide ((0 = 0) ∧ ((List.length z0.2) = (List.length z0.2))))
 (.ret (Sum.inl (((), (z0.1.2.1, (z0.1.2.2.1, ((), (w64 (z0.1.2.2.2.2 + 1)))))), z0.2)))
 .fail))
 .fail)
 (.ret (Sum.inr ((), data))))
noncomputable def F0_L1 (v : ((Unit × Int × Int × Unit × Int) × List ((Int × Int)))) : Option (Unit × List ((Int × Int))) := loopO (fun v => (F0_L1_step v).run) v

def F0_fo : List FO := [⟨[], [(.row 0 (.pair (.int .i64) (.int .i64)))]⟩]
noncomputable def F0_t : ((Unit × Int × Int × Unit) × List ((Int × Int))) → T (Unit × List ((Int × Int))) := fun (((), a, b, ()), data) =>
 (.test (decide ((0 = 0) ∧ ((List.length data) = (List.length data))))
 (.sub (F0_L1 (((), (a, (b, ((), (w64 (a + 1)))))), data)) fun z0 =>
 (.ret ((), z0.2)))
 .fail)
noncomputable def F0 (v : ((Unit × Int × Int × Unit) × List ((Int × Int)))) : Option (Unit × List ((Int × Int))) := (F0_t v).run
noncomputable def F0_E : TEnv := (E0.add1 n_F32 F32_sh F32_fo F32)
theorem F0_Eok : (F0_E).OK := (E0ok.add1 F32_ok)
noncomputable def F0_told : Nat → Option SealT := fun id => if id = 4 then some (LSh.told F0_L4_sh 1 (F0_L4_step)) else if id = 1 then some (LSh.told F0_L1_sh 1 (F0_L1_step)) else none
theorem F0_L4_ok : ToldOK Tryz.prog 1 (loopAt (bodyOf fn_F12) [0, 0]) (LSh.told F0_L4_sh 1 (F0_L4_step)) :=
  loop_ok (E := F0_E) (F0_Eok) (told := F0_told) (l := F0_L4_sh) (step := F0_L4_step) (loopsOK_of (ls := []) (by kernel_rfl) trivial) (by kernel_rfl) (fun v => by kernel_rfl)
theorem F0_L1_ok : ToldOK Tryz.prog 1 (loopAt (bodyOf fn_F12) [0]) (LSh.told F0_L1_sh 1 (F0_L1_step)) :=
  loop_ok (E := F0_E) (F0_Eok) (told := F0_told) (l := F0_L1_sh) (step := F0_L1_step) (loopsOK_of (ls := [loopAt (bodyOf fn_F12) [0, 0]]) (by kernel_rfl) ⟨.inr ⟨_, by kernel_rfl, F0_L4_ok⟩, trivial⟩) (by kernel_rfl) (fun v => by kernel_rfl)
theorem F0_ok : FOK Tryz.prog n_F12 F0_sh F0_fo F0 :=
  fn_ok (E := F0_E) (F0_Eok) (told := F0_told) (fl := []) (c := bodyOf fn_F12) (s := F0_sh) (l := F0_fo) (tree := F0_t) fnat_F12 (by kernel_rfl) (by kernel_rfl) (by kernel_rfl) (loopsOK_of (ls := [loopAt (bodyOf fn_F12) [0]]) (by kernel_rfl) ⟨.inr ⟨_, by kernel_rfl, F0_L1_ok⟩, trivial⟩) (fun v => by kernel_rfl)

theorem F0_sink (b i : Int) : ∀ (j : Nat) (l : List Dg), j < l.length → l.length < 1000000 →
    F0_L4 (((), ((0 : Int), (b, ((), (i, (j : Int)))))), l) = some (((), ((0 : Int), (b, ((), i)))), sinkD j l)
  | 0, l, hj, hl => by
    simp only [F0_L4]
    exact loopO_done (by simp [F0_L4_step, T.run, sinkD])
  | j + 1, l, hj, hl => by
    have ih := F0_sink b i j (swapD l j) (by rw [swapD_length]; omega) (by rw [swapD_length]; omega)
    simp only [F0_L4] at ih ⊢
    have w1 : w64 (((j + 1 : Nat) : Int) - 1) = (j : Int) := by rw [w64_id (by omega) (by omega)]; omega
    have c0 : ((j + 1 : Nat) : Int) > 0 := by omega
    have c1 : (0 : Int) ≤ ((j + 1 : Nat) : Int) ∧ ((j + 1 : Nat) : Int) < (l.length : Int) := by omega
    have c2 : (0 : Int) ≤ (j : Int) ∧ (j : Int) < (l.length : Int) := by omega
    have g1 := gD_some hj
    have g2 := gD_some (show j < l.length by omega)
    cases hlt : ltD (gD l (j + 1)) (gD l j) with
    | false =>
      have e : sinkD (j + 1) l = l := by unfold sinkD; rw [hlt]; rfl
      rw [e]
      refine loopO_done ?_
      simp only [F0_L4_step, T.run, w1, c0, c1, c2, Int.toNat_natCast, Nat.zero_add, g1, g2, Option.bind_some, decide_true, if_true, F32_eq, cmpD_lt, hlt, and_self]
      simp
    | true =>
      have e : sinkD (j + 1) l = sinkD j (swapD l j) := by conv => lhs; unfold sinkD
                                                           rw [hlt]; rfl
      rw [e, ← ih]
      refine loopO_next ?_
      have g3 : (l.set (j + 1) (gD l j))[j]? = some (gD l j) := by rw [List.getElem?_set_ne (by omega)]; exact g2
      simp only [F0_L4_step, T.run, w1, c0, c1, c2, Int.toNat_natCast, Nat.zero_add, g1, g2, g3, Option.bind_some, decide_true, if_true, F32_eq, cmpD_lt, hlt, and_self]
      simp [swapD]
theorem F0_isort : ∀ (n i : Nat) (l : List Dg), i + n = l.length → l.length < 1000000 →
    F0_L1 (((), ((0 : Int), ((l.length : Int), ((), (i : Int))))), l) = some ((), isortD n i l)
  | 0, i, l, hi, hl => by
    simp only [F0_L1]
    refine loopO_done ?_
    have : ¬ ((i : Int) < (l.length : Int)) := by omega
    simp [F0_L1_step, T.run, this, isortD]
  | n + 1, i, l, hi, hl => by
    have ih := F0_isort n (i + 1) (sinkD i l) (by rw [sinkD_length]; omega) (by rw [sinkD_length]; omega)
    rw [sinkD_length] at ih
    simp only [F0_L1] at ih ⊢
    show _ = some ((), isortD n (i + 1) (sinkD i l))
    rw [← ih]
    refine loopO_next ?_
    have c0 : (i : Int) < (l.length : Int) := by omega
    have w1 : w64 ((i : Int) + 1) = ((i + 1 : Nat) : Int) := by rw [w64_id (by omega) (by omega)]; omega
    simp only [F0_L1_step, T.run, c0, decide_true, if_true, F0_sink _ _ i l (by omega) hl, Option.bind_some, w1, and_self]


def F2_sh : FSh := ⟨[(.one (.rw 0 0)), (.one (.si .i64)), (.one (.si .i64)), (.one (.si .i64)), (.one (.fn n_F32))], [(.row 0 (.pair (.int .i64) (.int .i64)))]⟩

def F2_L2_sh : LSh := ⟨(fun ex => match ex with | .norm => [(0, none), (1, none), (2, none), (3, none), (4, none), (10, none), (11, none)] | .exit i => if i = 0 then [] else [] | .ret => []), [(0, (.one (.rw 0 0))), (1, (.one (.si .i64))), (2, (.one (.si .i64))), (3, (.one (.si .i64))), (4, (.one (.fn n_F32))), (10, (.one .sb)), (11, (.one .sb))], [(.row 0 (.pair (.int .i64) (.int .i64)))], [⟨.ret, [], [(.row 0 (.pair (.int .i64) (.int .i64)))]⟩], [], []⟩
noncomputable def F2_L2_step : ((Unit × Int × Int × Int × Unit × Bool × Bool) × List ((Int × Int))) → T (((Unit × Int × Int × Int × Unit × Bool × Bool) × List ((Int × Int))) ⊕ (Unit × List ((Int × Int)))) := fun (((), a, b, limit, (), wasBalanced, wasPartitioned), data) =>
 (.test (decide ((w64 (b - a)) ≤ 12))
 (.test (decide ((0 = 0) ∧ ((List.length data) = (List.length data))))
 (.sub (F0 (((), (a, (b, ()))), data)) fun z0 =>
 (.ret (Sum.inr ((), z0.2))))
 .fail)
 (.test (limit == 0)
 .fail
 (.test (! wasBalanced)
 .fail
 .fail)))
noncomputable def F2_L2 (v : ((Unit × Int × Int × Int × Unit × Bool × Bool) × List ((Int × Int)))) : Option (Unit × List ((Int × Int))) := loopO (fun v => (F2_L2_step v).run) v

def F2_fo : List FO := [⟨[], [(.row 0 (.pair (.int .i64) (.int .i64)))]⟩]
noncomputable def F2_t : ((Unit × Int × Int × Int × Unit) × List ((Int × Int))) → T (Unit × List ((Int × Int))) := fun (((), a, b, limit, ()), data) =>
 (.test (decide ((0 = 0) ∧ ((List.length data) = (List.length data))))
 (.sub (F2_L2 (((), (a, (b, (limit, ((), (true, true)))))), data)) fun z0 =>
 (.ret ((), z0.2)))
 .fail)
noncomputable def F2 (v : ((Unit × Int × Int × Int × Unit) × List ((Int × Int)))) : Option (Unit × List ((Int × Int))) := (F2_t v).run
noncomputable def F2_E : TEnv := (E0.add1 n_F12 F0_sh F0_fo F0)
theorem F2_Eok : (F2_E).OK := (E0ok.add1 F0_ok)
noncomputable def F2_told : Nat → Option SealT := fun id => if id = 2 then some (LSh.told F2_L2_sh 1 (F2_L2_step)) else none
theorem F2_L2_ok : ToldOK Tryz.prog 1 (loopAt (bodyOf fn_F14) [0]) (LSh.told F2_L2_sh 1 (F2_L2_step)) :=
  loop_ok (E := F2_E) (F2_Eok) (told := F2_told) (l := F2_L2_sh) (step := F2_L2_step) (loopsOK_of (ls := []) (by kernel_rfl) trivial) (by kernel_rfl) (fun v => by kernel_rfl)
theorem F2_ok : FOK Tryz.prog n_F14 F2_sh F2_fo F2 :=
  fn_ok (E := F2_E) (F2_Eok) (told := F2_told) (fl := []) (c := bodyOf fn_F14) (s := F2_sh) (l := F2_fo) (tree := F2_t) fnat_F14 (by kernel_rfl) (by kernel_rfl) (by kernel_rfl) (loopsOK_of (ls := [loopAt (bodyOf fn_F14) [0]]) (by kernel_rfl) ⟨.inr ⟨_, by kernel_rfl, F2_L2_ok⟩, trivial⟩) (fun v => by kernel_rfl)

end Go.Proofs.W
