import Derived.Test.YtpkbjabnchfgjaaGreatDoorWPfIds
noncomputable section
set_option linter.unusedVariables false
set_option linter.unusedSimpArgs false
set_option maxRecDepth 100000
set_option maxHeartbeats 4000000
namespace Go.Proofs.W
open Go Go.Gm Go.Proofs
open Go.RowKit Go.Shelf
@[reducible] def qz {a b : Type} (x : List a) (t : T b) : T b := .test (decide ((0 = 0) ∧ (x.length = x.length))) t .fail
@[reducible] def nz {a : Type} (l : List Nat) : List (Nat × Option a) := l.map fun i => (i, none)
@[reducible] def qo1 : ASh := (.one (.si .i64))
@[reducible] def qo2 : ASh := (.one .sb)
@[reducible] def qo3 : ASh := (.one (.pf 0 0 0))
@[reducible] def qo4 : ASh := (.one (.rw 0 0))
@[reducible] def qo5 : ASh := (.one (.sl (.int .i64) false false))
@[reducible] def qo6 : ASh := (.one .ss)
@[reducible] def qo7 : ASh := (.one (.sl (.int .u8) false true))
@[reducible] def qo8 : ASh := (.one (.rw 2 0))
@[reducible] def qo9 : ASh := (.one (.rw 1 0))
@[reducible] def qr1 : RSh := (.row 0 (.int .i64))
@[reducible] def qr2 : RSh := (.row 0 (.list true (.int .i64)))
def upQ (num den : Int) : Int := (num + den - 1) / den
theorem zdk {l : List Int} (h : isPz l = true) : 3 ≤ l.length ∧ l.length ≤ 9 := by
 simp only [isPz, qo, zay] at h
 omega
def zapt (l : List Int) (at' n : Int) : Bool × List Int := if isPz l && (inB 0 ((l.length : Int) - 1) at' && (inB 1 ((l.length : Int) - 2) n && decide (l[at'.toNat]? = some 0))) then (true, l.set at'.toNat n) else (false, [])
theorem zwc {α β σ X : Type} {step : α → Option (α ⊕ β)} {xs : List X} (P : Nat → σ → Prop) (emb : Nat → σ → α) (body : σ → X → σ ⊕ β) (fin : σ → β)
  (hs : ∀ k s x, P k s → xs[k]? = some x → step (emb k s) = some (match body s x with | .inl s' => .inl (emb (k + 1) s') | .inr o => .inr o) ∧ ∀ s', body s x = .inl s' → P (k + 1) s')
  (he : ∀ s, P xs.length s → step (emb xs.length s) = some (.inr (fin s))) : ∀ k s, k ≤ xs.length → P k s → zav step (emb k s) = some (forE body fin (xs.drop k) s) := by
 have key : ∀ n k s, n = xs.length - k → k ≤ xs.length → P k s → zav step (emb k s) = some (forE body fin (xs.drop k) s) := by
  intro n
  induction n with
  | zero =>
   intro k s hn hk hP
   have : k = xs.length := by omega
   subst this
   rw [zb1, he _ hP, List.drop_length]
   rfl
  | succ n ih =>
   intro k s hn hk hP
   have hlt : k < xs.length := by omega
   obtain ⟨h1, h2⟩ := hs k s xs[k] hP (qb hlt)
   rw [zb1, h1, qm hlt, z2q]
   cases hb : body s xs[k] with
   | inl s' => simp only []; exact ih (k + 1) s' (by omega) (by omega) (h2 s' hb)
   | inr o => rfl
 exact fun k s hk hP => key _ k s rfl hk hP
def zh0 (b : UInt8) : Option Int := if b.toNat = 46 then some 0 else if 49 ≤ b.toNat ∧ b.toNat ≤ 57 then some ((b.toNat : Int) - 48) else none
def zf5 : List UInt8 → Option (List Int)
 | [] => some []
 | b :: t => match zh0 b with
  | some z => (zf5 t).map (z :: ·)
  | none => none
theorem z7f {β : Type} (fin : List Int → β) (o : β) : ∀ (l : List UInt8) (acc : List Int), forE (fun acc b => match zh0 b with | some z => .inl (acc ++ [z]) | none => .inr o) fin l acc = match zf5 l with | some r => fin (acc ++ r) | none => o
 | [], acc => by simp [forE, zf5]
 | b :: t, acc => by
  rw [z2q, zf5]
  cases hc : zh0 b with
  | none => rfl
  | some z =>
   simp only []
   rw [z7f fin o t]
   cases zf5 t with
   | none => rfl
   | some r => simp
def zh3 (s : List UInt8) : Bool × List Int := if s.length > 9 then (false, []) else match zf5 s with
 | none => (false, [])
 | some r => if isPz r then (true, r) else (false, [])
theorem zjs : ∀ {s : List UInt8} {r : List Int}, zf5 s = some r → r.length = s.length
 | [], r, h => by cases h; rfl
 | b :: t, r, h => by
  rw [zf5] at h
  split at h
  ·obtain ⟨r', h1, rfl⟩ := qf.1 h
   simp [zjs h1]
  ·cases h
theorem zatv (s : List UInt8) : (zh3 s).2.length ≤ 9 := by
 unfold zh3
 split
 ·simp
 ·split
  ·simp
  ·rename_i h
   have := zjs h
   split
   ·simp; omega
   ·simp
theorem zaef {s : List UInt8} {k : Nat} {b : UInt8} (h : s[k]? = some b) : (zll s)[k]? = some (b.toNat : Int) := by unfold zll; rw [qn, h]; rfl
theorem zvo (s : List UInt8) : (zll s).length = s.length := by unfold zll; simp
def fits (p q : List Int) : Bool := decide (p.length = q.length) && !(p.zip q).any fun x => !(x.1 == 0 || x.1 == x.2)
def zaux (l : List Int) (k : Int) : Bool × List Int := if isPz l && inB 0 ((l.length : Int) - 1) k then (true, l.drop k.toNat ++ l.take k.toNat) else (false, [])
theorem zaft {l : List Int} {k : Int} (hp : isPz l = true) (hk : inB 0 ((l.length : Int) - 1) k = true) : win l k.toNat (l.length - k.toNat) = l.drop k.toNat ∧ win l 0 (k.toNat - 0) = l.take k.toNat ∧ 0 ≤ k ∧ k.toNat ≤ l.length ∧ l.length ≤ 9 := by
 have := zdk hp
 rw [zay] at hk
 refine ⟨?_, zfm _ _, hk.1, by omega, this.2⟩
 unfold win
 rw [List.take_of_length_le (by rw [kb]; omega)]
def z6l : FSh := ⟨[(.one (.sl (.int .u8) false false)), (.one (.sl (.int .u8) false false))], []⟩
def z6k : List FO := [⟨[(.one .sb)], []⟩]
def zaja : (List Int × List Int) → T Bool := fun (code, more) =>(.test (decide ((code.length : Int) > 1048576)) (.ret true) (.ret (decide ((more.length : Int) > (w64 (1048576 - (code.length : Int)))))))
def F157 (v) := (zaja v).run
def za2y : TEnv := E0
theorem zavz : (za2y).OK := E0ok
def zajb : Nat → Option zal := fun id => none
theorem za7p : FOK Tryz.prog zas9 z6l z6k F157 :=
 zao (E := za2y) (zavz) (told := zajb) (fl := []) (c := zac zaql) (s := z6l) (l := z6k) (tree := zaja) zarq (by kernel_rfl) (by kernel_rfl) (by kernel_rfl) (zab (ls := []) (by kernel_rfl) trivial) (fun v => by kernel_rfl)
def zanh : FSh := ⟨[(.one (.pf 0 0 0))], [(.rcd 0 [(.sl (.int .u8) false true), (.si .i64), (.si .u64)])]⟩
def zang : List FO := [⟨[(.one (.si .i64))], [(.rcd 0 [(.sl (.int .u8) false true), (.si .i64), (.si .u64)])]⟩]
def zbba : (Unit × (List Int × Int × Int)) → T (Int × (List Int × Int × Int)) := fun ((), (c_0, c_1, c_2)) =>(.test (decide (c_1 < (c_0.length : Int))) (.test (decide ((0 ≤ c_1) ∧ (c_1 < (c_0.length : Int)))) (.sub (c_0[(Int.toNat c_1)]?) fun z0 =>(.test (decide ((w64 (c_1 + 1)) ≤ (c_0.length : Int))) (.ret ((w64 z0), (c_0, ((w64 (c_1 + 1)), (wu64 ((wu64 ((wu64 (c_2 * 6364136223846793005)) + (wu64 (w64 z0)))) + 1442695040888963407)))))) (.ret ((w64 (wu64 (((Int.toNat ((Int.rec (fun a =>(fun a =>Nat.casesOn a ((fun x => 0) (2 ^ min (Int.toNat 40) IntKind.u64.bits)) fun n =>Int.casesOn (2 ^ min (Int.toNat 40) IntKind.u64.bits) (fun a => (fun m n => Int.ofNat (m / n)) n.succ a) fun a => (fun m n => Int.negSucc (m / n.succ)) n a) a) (fun a =>(fun a =>Int.casesOn (2 ^ min (Int.toNat 40) IntKind.u64.bits) (fun a_1 => Nat.casesOn a_1 ((fun a => 0) a) fun n => (fun m n => Int.negSucc (m / n.succ)) a n) fun a_1 =>(fun m n => Int.ofNat (m.succ / n.succ)) a a_1) a) (IntKind.u64.wrap (IntKind.u64.wrap (IntKind.u64.wrap (c_2 * Int.ofNat 6364136223846793005) + IntKind.u64.wrap (IntKind.i64.wrap z0)) + Int.ofNat 1442695040888963407))) % 18446744073709551616)) &&& 255 : Nat) : Int))), (c_0, ((w64 (c_1 + 1)), (wu64 ((wu64 ((wu64 (c_2 * 6364136223846793005)) + (wu64 (w64 z0)))) + 1442695040888963407)))))))) .fail) (.test (decide ((w64 (c_1 + 1)) ≤ (c_0.length : Int))) (.ret ((0 : Int), (c_0, ((w64 (c_1 + 1)), (wu64 ((wu64 ((wu64 (c_2 * 6364136223846793005)) + 0)) + 1442695040888963407)))))) (.ret ((w64 (wu64 (((Int.toNat ((Int.rec (fun a =>(fun a =>Nat.casesOn a ((fun x => 0) (2 ^ min (Int.toNat 40) IntKind.u64.bits)) fun n =>Int.casesOn (2 ^ min (Int.toNat 40) IntKind.u64.bits) (fun a => (fun m n => Int.ofNat (m / n)) n.succ a) fun a => (fun m n => Int.negSucc (m / n.succ)) n a) a) (fun a =>(fun a =>Int.casesOn (2 ^ min (Int.toNat 40) IntKind.u64.bits) (fun a_1 => Nat.casesOn a_1 ((fun a => 0) a) fun n => (fun m n => Int.negSucc (m / n.succ)) a n) fun a_1 =>(fun m n => Int.ofNat (m.succ / n.succ)) a a_1) a) (IntKind.u64.wrap (IntKind.u64.wrap (IntKind.u64.wrap (c_2 * Int.ofNat 6364136223846793005) + Int.ofNat 0) + Int.ofNat 1442695040888963407))) % 18446744073709551616)) &&& 255 : Nat) : Int))), (c_0, ((w64 (c_1 + 1)), (wu64 ((wu64 ((wu64 (c_2 * 6364136223846793005)) + 0)) + 1442695040888963407))))))))
def F85 (v) := (zbba v).run
def zbh7 : TEnv := E0
theorem zba9 : (zbh7).OK := E0ok
def zaxl : Nat → Option zal := fun id => none
theorem zbh8 : FOK Tryz.prog zbeb zanh zang F85 :=
 zao (E := zbh7) (zba9) (told := zaxl) (fl := []) (c := zac za5r) (s := zanh) (l := zang) (tree := zbba) za0d (by kernel_rfl) (by kernel_rfl) (by kernel_rfl) (zab (ls := []) (by kernel_rfl) trivial) (fun v => by kernel_rfl)
def zox : FSh := ⟨[(.one (.pf 0 0 0)), (.one (.si .i64))], [(.rcd 0 [(.sl (.int .u8) false true), (.si .i64), (.si .u64)])]⟩
def zow : List FO := [⟨[(.one (.si .i64))], [(.rcd 0 [(.sl (.int .u8) false true), (.si .i64), (.si .u64)])]⟩]
def zbbc : ((Unit × Int) × (List Int × Int × Int)) → T (Int × (List Int × Int × Int)) := fun (((), n), (c_0, c_1, c_2)) =>(.test (decide (n ≤ 1)) (.ret ((0 : Int), (c_0, (c_1, c_2)))) (.sub (F85 ((), (c_0, (c_1, c_2)))) fun z0 =>(.test (decide (n > 200)) (.sub (F85 ((), (z0.2.1, (z0.2.2.1, z0.2.2.2)))) fun z1 =>(.test (decide (n ≠ 0)) (.ret ((Int.tmod (w64 ((w64 (z0.1 * 256)) + z1.1)) n), (z1.2.1, (z1.2.2.1, z1.2.2.2)))) .fail)) (.test (decide (n ≠ 0)) (.ret ((Int.tmod z0.1 n), (z0.2.1, (z0.2.2.1, z0.2.2.2)))) .fail))))
def F86 (v) := (zbbc v).run
def zbh9 : TEnv := (E0.add1 zbeb zanh zang F85)
theorem zbbb : (zbh9).OK := (E0ok.add1 zbh8)
def zaxm : Nat → Option zal := fun id => none
theorem zvi : FOK Tryz.prog z3o zox zow F86 :=
 zao (E := zbh9) (zbbb) (told := zaxm) (fl := []) (c := zac za5s) (s := zox) (l := zow) (tree := zbbc) za0e (by kernel_rfl) (by kernel_rfl) (by kernel_rfl) (zab (ls := []) (by kernel_rfl) trivial) (fun v => by kernel_rfl)
def zie : FSh := ⟨[(.one (.si .i64)), (.one (.si .i64)), (.one (.si .i64))], []⟩
def zid : List FO := [⟨[(.one .sb)], []⟩]
def zai3 : (Int × Int × Int) → T Bool := fun (n, lo, hi) =>(.test (decide (n ≥ lo)) (.ret (decide (n ≤ hi))) (.ret false))
def F147 (v) := (zai3 v).run
def za2w : TEnv := E0
theorem zavw : (za2w).OK := E0ok
def zai4 : Nat → Option zal := fun id => none
theorem zni : FOK Tryz.prog zpd zie zid F147 :=
 zao (E := za2w) (zavw) (told := zai4) (fl := []) (c := zac zaqj) (s := zie) (l := zid) (tree := zai3) zarn (by kernel_rfl) (by kernel_rfl) (by kernel_rfl) (zab (ls := []) (by kernel_rfl) trivial) (fun v => by kernel_rfl)
theorem znh (n low high : Int) : F147 (n, low, high) = some (inB low high n) := by
 simp only [F147, zai3, T.run, ge_iff_le, kf, inB]
 by_cases h : low ≤ n <;> simp [h]
def zxx : FSh := ⟨[(.one (.si .i64))], []⟩
def zxw : List FO := [⟨[(.one .sb)], []⟩]
def z8w : Int → T Bool := fun n =>(.sub (F147 (n, ((3 : Int), (12 : Int)))) fun z0 =>(.ret z0))
def F148 (v) := (z8w v).run
def za2x : TEnv := (E0.add1 zpd zie zid F147)
theorem zavx : (za2x).OK := (E0ok.add1 zni)
def zai6 : Nat → Option zal := fun id => none
theorem zai5 : FOK Tryz.prog zab6 zxx zxw F148 :=
 zao (E := za2x) (zavx) (told := zai6) (fl := []) (c := zac zaqk) (s := zxx) (l := zxw) (tree := z8w) zaro (by kernel_rfl) (by kernel_rfl) (by kernel_rfl) (zab (ls := []) (by kernel_rfl) trivial) (fun v => by kernel_rfl)
def zxs : FSh := ⟨[(.one (.sl (.int .i64) false false)), (.one (.si .i64)), (.one (.si .i64))], []⟩
def zm9 : LSh := ⟨(fun ex => match ex with | .norm => (nz [1, 2, 9, 10, 11]) | .exit i => if i = 0 then [] else [] | .ret => (nz [6])), [(1, qo1), (2, qo1), (9, qo5), (10, qo1), (11, qo1)], [], [⟨.ret, [(6, qo2)], []⟩, ⟨(.exit 0), [], []⟩], [], []⟩
def zcu : (Int × Int × List Int × Int × Int) → T ((Int × Int × List Int × Int × Int) ⊕ (Bool ⊕ Unit)) := fun (lo, hi, t9, t10, t11) =>(.test (decide (t11 < t10)) (.test (decide ((0 ≤ t11) ∧ (t11 < (t9.length : Int)))) (.sub (t9[(Int.toNat t11)]?) fun z0 =>(.sub (F147 (z0, (lo, hi))) fun z1 =>(.test (! z1) (.ret (Sum.inr (Sum.inl false))) (.ret (Sum.inl (lo, (hi, (t9, (t10, (w64 (t11 + 1))))))))))) .fail) (.ret (Sum.inr (Sum.inr ()))))
def zaig (v) := zav (fun v => (zcu v).run) v
def zxr : List FO := [⟨[(.one .sb)], []⟩]
def zaij : (List Int × Int × Int) → T Bool := fun (l, lo, hi) =>(.sub (zaig (lo, (hi, (l, ((l.length : Int), (0 : Int)))))) fun z0 =>(.test (Sum.isLeft z0) (.sub (Sum.getLeft? z0) fun z1 =>(.ret z1)) (.sub (Sum.getRight? z0) fun z2 =>(.ret true))))
def F132 (v) := (zaij v).run
def zaif : TEnv := (E0.add1 zpd zie zid F147)
theorem z8p : (zaif).OK := (E0ok.add1 zni)
def z0o : Nat → Option zal := fun id => if id = 2 then some (LSh.told zm9 0 (zcu)) else none
theorem zads : zan Tryz.prog 0 (zad (zac zy5) [0]) (LSh.told zm9 0 (zcu)) :=
 zak (E := zaif) (z8p) (told := z0o) (l := zm9) (step := zcu) (zab (ls := []) (by kernel_rfl) trivial) (by kernel_rfl) (fun v => by kernel_rfl)
theorem zaii : FOK Tryz.prog zab5 zxs zxr F132 :=
 zao (E := zaif) (z8p) (told := z0o) (fl := []) (c := zac zy5) (s := zxs) (l := zxr) (tree := zaij) zare (by kernel_rfl) (by kernel_rfl) (by kernel_rfl) (zab (ls := [zad (zac zy5) [0]]) (by kernel_rfl) ⟨.inr ⟨_, by kernel_rfl, zads⟩, trivial⟩) (fun v => by kernel_rfl)
theorem zaih (l : List Int) (lo hi : Int) (hl : l.length < 4611686018427387904) : F132 (l, lo, hi) = some (l.all (inB lo hi)) := by
 have h := zjn (step := fun v => (zcu v).run) (xs := l) (fun n => !inB lo hi n) (fun k => (lo, hi, l, (l.length : Int), (k : Int))) (.inl false) (.inr ())
  (fun k x hx => by
   have hk := zai hx
   simp only [zcu, T.run, znh, qa, qe, hx]
   rw [zae (by omega) (by omega)]
   cases inB lo hi x <;> simp [hk])
  (by simp [zcu, T.run])
 simp only [F132, zaij, T.run, zaig]
 simp only [ka] at h
 rw [h, ← zao3]
 cases hb : l.any (fun n => !inB lo hi n) <;> simp
def zic : FSh := ⟨[(.one (.sl (.int .i64) false false))], []⟩
def zib : List FO := [⟨[(.one (.rw 0 0))], [qr1]⟩]
def zaik : List Int → T (Unit × List Int) := fun l =>(.test true (.test (decide ((2 * ((0 + l.length) * 9)) ≤ 140737488355328)) (.test (decide ((0 = 0) ∧ ((0 + l.length) = (List.length ((win (List.replicate 0 (0 : Int)) 0 0) ++ l))))) (.ret ((), ((win (List.replicate 0 (0 : Int)) 0 0) ++ l))) .fail) .fail) .fail)
def F133 (v) := (zaik v).run
def za2t : TEnv := E0
theorem zavr : (za2t).OK := E0ok
def zail : Nat → Option zal := fun id => none
theorem zna : FOK Tryz.prog zpc zic zib F133 :=
 zao (E := za2t) (zavr) (told := zail) (fl := []) (c := zac zaqg) (s := zic) (l := zib) (tree := zaik) zarf (by kernel_rfl) (by kernel_rfl) (by kernel_rfl) (zab (ls := []) (by kernel_rfl) trivial) (fun v => by kernel_rfl)
theorem zia (l : List Int) (hl : l.length < 1000000000000) : F133 l = some ((), l) := by
 have h : 2 * (l.length * 9) ≤ 140737488355328 := by omega
 have hw : win ([] : List Int) 0 0 = [] := rfl
 simp [F133, zaik, T.run, hw, h]
def z5k : FSh := ⟨[(.one (.si .i64)), (.one (.si .i64))], []⟩
def z5j : List FO := [⟨[(.one (.si .i64))], []⟩]
def zagz : (Int × Int) → T Int := fun (a, b) =>(.test (decide (a < b)) (.ret a) (.ret b))
def F113 (v) := (zagz v).run
def za2g : TEnv := E0
theorem zavf : (za2g).OK := E0ok
def zag0 : Nat → Option zal := fun id => none
theorem za6w : FOK Tryz.prog zasx z5k z5j F113 :=
 zao (E := za2g) (zavf) (told := zag0) (fl := []) (c := zac zap6) (s := z5k) (l := z5j) (tree := zagz) zaqz (by kernel_rfl) (by kernel_rfl) (by kernel_rfl) (zab (ls := []) (by kernel_rfl) trivial) (fun v => by kernel_rfl)
def z5r : FSh := ⟨[(.one (.si .i64)), (.one (.si .i64))], []⟩
def z5q : List FO := [⟨[(.one (.si .i64))], []⟩]
def zahl : (Int × Int) → T Int := fun (a, b) =>(.test (decide (a > b)) (.ret a) (.ret b))
def F120 (v) := (zahl v).run
def za2n : TEnv := E0
theorem zavl : (za2n).OK := E0ok
def zahm : Nat → Option zal := fun id => none
theorem za64 : FOK Tryz.prog zas0 z5r z5q F120 :=
 zao (E := za2n) (zavl) (told := zahm) (fl := []) (c := zac zaqc) (s := z5r) (l := z5q) (tree := zahl) zaq5 (by kernel_rfl) (by kernel_rfl) (by kernel_rfl) (zab (ls := []) (by kernel_rfl) trivial) (fun v => by kernel_rfl)
abbrev Dg := Int × Int
def nbB (n i : Nat) : Nat := (i + n - 1) % n
def nbC (n i : Nat) : Nat := (i + 1) % n
def zbg (l : List Int) (p : Nat) : List Int := l.set p (w64 (l.getD p 0 - 1))
def cutL (l : List Int) (i : Nat) : List Int := (zbg (zbg l (nbB l.length i)) (nbC l.length i)).eraseIdx i
def cutD (names : List Int) (i : Nat) : Dg :=
 (min (names.getD (nbB names.length i) 0) (names.getD (nbC names.length i) 0), max (names.getD (nbB names.length i) 0) (names.getD (nbC names.length i) 0))
def ear (l : List Int) : Option Nat := l.findIdx? (fun x => (1 : Int) == x)
def okC (l : List Int) (i : Nat) : Bool := decide (1 ≤ w64 (l.getD (nbB l.length i) 0 - 1) ∧ 1 ≤ w64 (l.getD (nbC l.length i) 0 - 1))
def tri : Nat → List Int → List Int → Option (List Dg)
 | 0, l, _ => if l = [1, 1, 1] then some [] else none
 | k + 1, l, names => match ear l with
  | none => none
  | some i => (tri k (cutL l i) (names.eraseIdx i)).map (cutD names i :: ·)
def triS : Nat → List Int → List Int → Option (List Dg)
 | 0, l, _ => if l = [1, 1, 1] then some [] else none
 | k + 1, l, names => match ear l with
  | none => none
  | some i => if okC l i then (triS k (cutL l i) (names.eraseIdx i)).map (cutD names i :: ·) else none
def cntD (d : Dg) (m : Int) : Int := (if d.1 = m then 1 else 0) + (if d.2 = m then 1 else 0)
def cnt (ds : List Dg) (m : Int) : Int := ds.foldr (fun d s => cntD d m + s) 0
def zbc (d e : Dg) : Bool := (decide (d.1 < e.1) && decide (e.1 < d.2) && decide (d.2 < e.2)) || (decide (e.1 < d.1) && decide (d.1 < e.2) && decide (e.2 < d.2))
def Ends (names : List Int) (d : Dg) : Prop := d.1 ∈ names ∧ d.2 ∈ names ∧ d.1 < d.2 ∧ (∃ m ∈ names, d.1 < m ∧ m < d.2) ∧ (∃ m ∈ names, m < d.1 ∨ d.2 < m)
def zbe2 (d e : Dg) : Prop := d ≠ e ∧ zbc d e = false
def Good (names : List Int) (ds : List Dg) : Prop := (∀ d ∈ ds, Ends names d) ∧ ds.Pairwise zbe2
theorem zgy {n i : Nat} (hn : 3 ≤ n) (hi : i < n) : nbB n i < n ∧ nbC n i < n ∧ nbB n i ≠ i ∧ nbC n i ≠ i ∧ nbB n i ≠ nbC n i ∧
  ((i = 0 ∧ nbB n i = n - 1 ∧ nbC n i = 1) ∨ (i = n - 1 ∧ nbB n i = n - 2 ∧ nbC n i = 0) ∨ (0 < i ∧ i < n - 1 ∧ nbB n i = i - 1 ∧ nbC n i = i + 1)) := by
 unfold nbB nbC
 by_cases h0 : i = 0
 ·subst h0
  rw [Nat.mod_eq_of_lt (by omega), Nat.mod_eq_of_lt (by omega)]
  omega
 ·rw [show i + n - 1 = (i - 1) + n by omega, Nat.add_mod_right, Nat.mod_eq_of_lt (by omega)]
  by_cases h1 : i = n - 1
  ·subst h1
   rw [show n - 1 + 1 = n by omega, Nat.mod_self]
   omega
  ·rw [Nat.mod_eq_of_lt (by omega)]
   omega
theorem zf4 {l : List Int} {i : Nat} (h : ear l = some i) : i < l.length ∧ l[i]? = some 1 := by
 obtain ⟨h1, h2, _⟩ := List.findIdx?_eq_some_iff_getElem.1 h
 refine ⟨h1, ?_⟩
 rw [qb h1]
 simp at h2
 rw [← h2]
theorem zbu (l : List Int) (p : Nat) : (zbg l p).length = l.length := by simp [zbg]
theorem za7 {l : List Int} {i : Nat} (h : i < l.length) : (cutL l i).length = l.length - 1 := by
 unfold cutL
 rw [List.length_eraseIdx, zbu, zbu, if_pos h]
def cutV (l : List Int) (i p : Nat) : Int := if p = nbB l.length i ∨ p = nbC l.length i then w64 (l.getD p 0 - 1) else l.getD p 0
theorem zaaw {l : List Int} {i p : Nat} (hn : 3 ≤ l.length) (hi : i < l.length) (hp : p < l.length) :
  (zbg (zbg l (nbB l.length i)) (nbC l.length i))[p]? = some (cutV l i p) := by
 obtain ⟨h1, h2, h3, h4, h5, _⟩ := zgy hn hi
 unfold zbg cutV
 by_cases e1 : nbC l.length i = p
 ·subst e1
  rw [List.getElem?_set_self (by simpa using h2), if_pos (.inr rfl)]
  simp only [qg, kh h5]
 ·rw [kh e1]
  by_cases e2 : nbB l.length i = p
  ·subst e2
   rw [List.getElem?_set_self h1, if_pos (.inl rfl)]
  ·rw [kh e2, if_neg (by omega), qg, qb hp]
   rfl
theorem zyn {l : List Int} {i p : Nat} (hn : 3 ≤ l.length) (hi : i < l.length) (hp : p < l.length) (hpi : p ≠ i) :
  (cutL l i)[if p < i then p else p - 1]? = some (cutV l i p) := by
 unfold cutL
 rw [List.getElem?_eraseIdx]
 by_cases h : p < i
 ·simp only [h, if_true]
  exact zaaw hn hi hp
 ·simp only [h, if_false]
  rw [if_neg (by omega), show p - 1 + 1 = p by omega]
  exact zaaw hn hi hp
theorem z2h {X : Type} {names : List X} {i p : Nat} (hpi : p ≠ i) : (names.eraseIdx i)[if p < i then p else p - 1]? = names[p]? := by
 rw [List.getElem?_eraseIdx]
 by_cases h : p < i
 ·simp [h]
 ·simp only [h, if_false]
  rw [if_neg (by omega), show p - 1 + 1 = p by omega]
theorem z2i {X : Type} {names : List X} {i : Nat} {m : X} (h : m ∈ names.eraseIdx i) : ∃ p, p ≠ i ∧ names[p]? = some m := by
 obtain ⟨j, hj1, hj2⟩ := List.mem_eraseIdx_iff_getElem?.1 h
 exact ⟨j, hj1, hj2⟩
theorem zaz {names : List Int} (hs : names.Pairwise (· < ·)) {p q : Nat} (h : p < q) {a b : Int} (ha : names[p]? = some a) (hb : names[q]? = some b) : a < b := by
 obtain ⟨h1, e1⟩ := qh.1 ha
 obtain ⟨h2, e2⟩ := qh.1 hb
 rw [← e1, ← e2]
 exact List.pairwise_iff_getElem.1 hs p q h1 h2 h
theorem zom {names : List Int} (hs : names.Pairwise (· < ·)) {p q : Nat} {a : Int} (ha : names[p]? = some a) (hb : names[q]? = some a) : p = q := by
 rcases Nat.lt_trichotomy p q with h | h | h
 ·have := zaz hs h ha hb; omega
 ·exact h
 ·have := zaz hs h hb ha; omega
theorem getD_some {X : Type} {l : List X} {p : Nat} {a d : X} (h : l[p]? = some a) : l.getD p d = a := by rw [qg, h]; rfl
theorem zns {names : List Int} (hs : names.Pairwise (· < ·)) {i : Nat} (hn : 4 ≤ names.length) (hi : i < names.length) :
  Ends names (cutD names i) ∧ (cutD names i).1 ∈ names.eraseIdx i ∧ (cutD names i).2 ∈ names.eraseIdx i ∧
  ((∀ m ∈ names.eraseIdx i, ¬ ((cutD names i).1 < m ∧ m < (cutD names i).2)) ∨ (∀ m ∈ names.eraseIdx i, ¬ (m < (cutD names i).1 ∨ (cutD names i).2 < m))) ∧
  ∀ p m, names[p]? = some m → cntD (cutD names i) m = if p = nbB names.length i ∨ p = nbC names.length i then 1 else 0 := by
 obtain ⟨h1, h2, h3, h4, h5, h6⟩ := zgy (by omega : 3 ≤ names.length) hi
 have gb := qb h1
 have gc := qb h2
 have gi := qb hi
 have hmem : ∀ p, p ≠ i → ∀ m, names[p]? = some m → m ∈ names.eraseIdx i := fun p hp m hm => List.mem_eraseIdx_iff_getElem?.2 ⟨p, hp, hm⟩
 have mb := hmem _ h3 _ gb
 have mc := hmem _ h4 _ gc
 have hD : cutD names i = (min names[nbB names.length i] names[nbC names.length i], max names[nbB names.length i] names[nbC names.length i]) := by
  unfold cutD; rw [getD_some gb, getD_some gc]
 have hE : ∀ {m}, m ∈ names.eraseIdx i → ∃ p, p ≠ i ∧ names[p]? = some m := fun h => z2i h
 have g0 := qb (show 0 < names.length by omega)
 have g1 := qb (show 1 < names.length by omega)
 have g2 := qb (show 2 < names.length by omega)
 have gl := qb (show names.length - 1 < names.length by omega)
 have key : ∀ a b : Int, (names[nbB names.length i] = a ∧ names[nbC names.length i] = b ∨ names[nbB names.length i] = b ∧ names[nbC names.length i] = a) → a < b → (cutD names i) = (a, b) := by
  intro a b h hab
  rw [hD]
  rcases h with ⟨e1, e2⟩ | ⟨e1, e2⟩ <;> rw [e1, e2] <;> simp only [qr] <;> constructor <;> omega
 have hcnt : ∀ p m, names[p]? = some m → cntD (cutD names i) m = if p = nbB names.length i ∨ p = nbC names.length i then 1 else 0 := by
  intro p m hm
  have e1 : p = nbB names.length i ↔ names[nbB names.length i] = m := ⟨fun e => by subst e; rw [gb] at hm; exact Option.some.inj hm, fun e => zom hs hm (by rw [gb, e])⟩
  have e2 : p = nbC names.length i ↔ names[nbC names.length i] = m := ⟨fun e => by subst e; rw [gc] at hm; exact Option.some.inj hm, fun e => zom hs hm (by rw [gc, e])⟩
  rw [hD]
  unfold cntD
  simp only []
  by_cases c1 : p = nbB names.length i
  ·have c2 : ¬ p = nbC names.length i := by omega
   have d1 := e1.1 c1
   have d2 : ¬ names[nbC names.length i] = m := fun e => c2 (e2.2 e)
   simp only [c1, true_or, if_true]
   split <;> split <;> omega
  ·have d1 : ¬ names[nbB names.length i] = m := fun e => c1 (e1.2 e)
   by_cases c2 : p = nbC names.length i
   ·have d2 := e2.1 c2
    simp only [c2, or_true, if_true]
    split <;> split <;> omega
   ·have d2 : ¬ names[nbC names.length i] = m := fun e => c2 (e2.2 e)
    rw [if_neg (by omega : ¬ (p = nbB names.length i ∨ p = nbC names.length i))]
    split <;> split <;> omega
 rcases h6 with ⟨hi0, hb, hc⟩ | ⟨hi0, hb, hc⟩ | ⟨hi0, hi1, hb, hc⟩
 ·have lt1 := zaz hs (show nbC names.length i < nbB names.length i by omega) gc gb
  have e := key _ _ (.inr ⟨rfl, rfl⟩) lt1
  rw [e]
  refine ⟨⟨qp gc, qp gb, lt1, ⟨_, qp g2, zaz hs (by omega) gc g2, zaz hs (by omega) g2 gb⟩, ⟨_, qp g0, .inl (zaz hs (by omega) g0 gc)⟩⟩, mc, mb, .inr ?_, ?_⟩
  ·intro m hm
   obtain ⟨p, hp, hpm⟩ := hE hm
   have := zai hpm
   rintro (h | h)
   ·have : ¬ nbC names.length i ≤ p := by
     intro hle
     rcases Nat.lt_or_eq_of_le hle with h' | h'
     ·have := zaz hs h' gc hpm; simp only [] at h; omega
     ·subst h'; rw [gc] at hpm; have := Option.some.inj hpm; simp only [] at h; omega
    omega
   ·have : ¬ p ≤ nbB names.length i := by
     intro hle
     rcases Nat.lt_or_eq_of_le hle with h' | h'
     ·have := zaz hs h' hpm gb; simp only [] at h; omega
     ·subst h'; rw [gb] at hpm; have := Option.some.inj hpm; simp only [] at h; omega
    omega
  ·rw [← e]; exact hcnt
 ·have lt1 := zaz hs (show nbC names.length i < nbB names.length i by omega) gc gb
  have e := key _ _ (.inr ⟨rfl, rfl⟩) lt1
  rw [e]
  refine ⟨⟨qp gc, qp gb, lt1, ⟨_, qp g1, zaz hs (by omega) gc g1, zaz hs (by omega) g1 gb⟩, ⟨_, qp gl, .inr (zaz hs (by omega) gb gl)⟩⟩, mc, mb, .inr ?_, ?_⟩
  ·intro m hm
   obtain ⟨p, hp, hpm⟩ := hE hm
   have := zai hpm
   rintro (h | h)
   ·have : ¬ nbC names.length i ≤ p := by
     intro hle
     rcases Nat.lt_or_eq_of_le hle with h' | h'
     ·have := zaz hs h' gc hpm; simp only [] at h; omega
     ·subst h'; rw [gc] at hpm; have := Option.some.inj hpm; simp only [] at h; omega
    omega
   ·have : ¬ p ≤ nbB names.length i := by
     intro hle
     rcases Nat.lt_or_eq_of_le hle with h' | h'
     ·have := zaz hs h' hpm gb; simp only [] at h; omega
     ·subst h'; rw [gb] at hpm; have := Option.some.inj hpm; simp only [] at h; omega
    omega
  ·rw [← e]; exact hcnt
 ·have lt1 := zaz hs (show nbB names.length i < nbC names.length i by omega) gb gc
  have e := key _ _ (.inl ⟨rfl, rfl⟩) lt1
  rw [e]
  refine ⟨⟨qp gb, qp gc, lt1, ⟨_, qp gi, zaz hs (by omega) gb gi, zaz hs (by omega) gi gc⟩, ?_⟩, mb, mc, .inl ?_, ?_⟩
  ·by_cases hz : 0 < nbB names.length i
   ·exact ⟨_, qp g0, .inl (zaz hs hz g0 gb)⟩
   ·exact ⟨_, qp gl, .inr (zaz hs (by omega) gc gl)⟩
  ·intro m hm
   obtain ⟨p, hp, hpm⟩ := hE hm
   have := zai hpm
   rintro ⟨ha, hb'⟩
   have c1 : nbB names.length i < p := by
    rcases Nat.lt_trichotomy (nbB names.length i) p with h' | h' | h'
    ·exact h'
    ·subst h'; rw [gb] at hpm; have := Option.some.inj hpm; simp only [] at ha; omega
    ·have := zaz hs h' hpm gb; simp only [] at ha; omega
   have c2 : p < nbC names.length i := by
    rcases Nat.lt_trichotomy p (nbC names.length i) with h' | h' | h'
    ·exact h'
    ·subst h'; rw [gc] at hpm; have := Option.some.inj hpm; simp only [] at hb'; omega
    ·have := zaz hs h' gc hpm; simp only [] at hb'; omega
   omega
  ·rw [← e]; exact hcnt
theorem Ends.mono {names names' : List Int} (h : ∀ m ∈ names', m ∈ names) {d : Dg} (hd : Ends names' d) : Ends names d := by
 obtain ⟨a, b, c, ⟨m, hm, hm'⟩, ⟨q, hq, hq'⟩⟩ := hd
 exact ⟨h _ a, h _ b, c, ⟨m, h _ hm, hm'⟩, ⟨q, h _ hq, hq'⟩⟩
theorem zgd : ∀ (k : Nat) (l names : List Int) (ds : List Dg), names.Pairwise (· < ·) → l.length = k + 3 → names.length = k + 3 → tri k l names = some ds → ds.length = k ∧ Good names ds
 | 0, l, names, ds, hs, hl, hn, h => by
  unfold tri at h
  split at h
  ·cases h; exact ⟨rfl, by simp, by simp⟩
  ·cases h
 | k + 1, l, names, ds, hs, hl, hn, h => by
  unfold tri at h
  cases he : ear l with
  | none => rw [he] at h; cases h
  | some i =>
   rw [he] at h
   simp only [] at h
   obtain ⟨hi, _⟩ := zf4 he
   obtain ⟨ds', h1, h2⟩ := qf.1 h
   subst h2
   have hE : (names.eraseIdx i).length = k + 3 := by rw [List.length_eraseIdx, if_pos (by omega)]; omega
   have hsub : ∀ m ∈ names.eraseIdx i, m ∈ names := fun m hm => List.mem_of_mem_eraseIdx hm
   obtain ⟨g1, g2, g3⟩ := zgd k (cutL l i) (names.eraseIdx i) ds' (hs.sublist (List.eraseIdx_sublist ..)) (by rw [za7 hi]; omega) hE h1
   obtain ⟨f1, f2, f3, f4, f5⟩ := zns hs (by omega) (show i < names.length by omega)
   refine ⟨by simp [g1], fun d hd => ?_, ?_⟩
   ·rcases List.mem_cons.1 hd with rfl | hd
    ·exact f1
    ·exact (g2 d hd).mono hsub
   ·refine List.pairwise_cons.2 ⟨fun e he' => ?_, g3⟩
    obtain ⟨q1, q2, q3, ⟨m, q4, q5⟩, ⟨m', q6, q7⟩⟩ := g2 e he'
    generalize cutD names i = d at *
    constructor
    ·rintro rfl
     rcases f4 with f4 | f4
     ·exact f4 m q4 q5
     ·exact f4 m' q6 q7
    ·unfold zbc
     rcases f4 with f4 | f4
     ·have a1 := f4 _ q1
      have a2 := f4 _ q2
      simp
      constructor <;> intro h1 h2 <;> omega
     ·have a1 := f4 _ q1
      have a2 := f4 _ q2
      simp
      constructor <;> intro h1 h2 <;> omega
theorem z1w (ds : List Dg) (m : Int) : 0 ≤ cnt ds m ∧ cnt ds m ≤ 2 * ds.length := by
 induction ds with
 | nil => simp [cnt]
 | cons d t ih =>
  have : cnt (d :: t) m = cntD d m + cnt t m := rfl
  rw [this, qk]
  unfold cntD
  split <;> split <;> omega
theorem zayb (ds : List Dg) (m : Int) (h : ∀ d ∈ ds, d.1 ≠ m ∧ d.2 ≠ m) : cnt ds m = 0 := by
 induction ds with
 | nil => simp [cnt]
 | cons d t ih =>
  have e : cnt (d :: t) m = cntD d m + cnt t m := rfl
  have := h d (by simp)
  rw [e, ih (fun d hd => h d (by simp [hd]))]
  unfold cntD
  rw [if_neg this.1, if_neg this.2]
  rfl
def Cnts (l names : List Int) (ds : List Dg) : Prop := ∀ (p : Nat) (v m : Int), l[p]? = some v → names[p]? = some m → v = 1 + cnt ds m
theorem zbcx {names : List Int} {ds : List Dg} (g : Good names ds) {m : Int} (h : m ∉ names) : cnt ds m = 0 :=
 zayb ds m fun d hd => ⟨fun e => h (e ▸ (g.1 d hd).1), fun e => h (e ▸ (g.1 d hd).2.1)⟩
theorem zaav {k : Nat} {l names : List Int} {i : Nat} {ds : List Dg} (hs : names.Pairwise (· < ·)) (hl : l.length = k + 4) (hn : names.length = k + 4) (hi : ear l = some i) (g : Good (names.eraseIdx i) ds)
  (hw : ∀ p, p < l.length → w64 (l.getD p 0 - 1) = l.getD p 0 - 1) : Cnts (cutL l i) (names.eraseIdx i) ds ↔ Cnts l names (cutD names i :: ds) := by
 obtain ⟨hil, hi1⟩ := zf4 hi
 obtain ⟨h1, h2, h3, h4, h5, h6⟩ := zgy (by omega : 3 ≤ l.length) hil
 obtain ⟨f1, f2, f3, f4, f5⟩ := zns hs (by omega) (show i < names.length by omega)
 have hcv : ∀ p m, p < l.length → names[p]? = some m → cutV l i p = l.getD p 0 - cntD (cutD names i) m := by
  intro p m hp hm
  rw [f5 p m hm, hn, ← hl]
  unfold cutV
  rw [hw p hp]
  split <;> simp
 constructor
 ·intro h p v m hv hm
  have e : cnt (cutD names i :: ds) m = cntD (cutD names i) m + cnt ds m := rfl
  rw [e]
  have hp := zai hv
  by_cases hpi : p = i
  ·subst hpi
   rw [hi1] at hv
   cases hv
   have := f5 p m hm
   rw [hn, ← hl, if_neg (by omega)] at this
   rw [this, zbcx g]
   ·rfl
   ·intro hmem
    obtain ⟨q, hq, hqm⟩ := z2i hmem
    exact hq (zom hs hqm hm)
  ·have := h (if p < i then p else p - 1) (cutV l i p) m (zyn (by omega) hil hp hpi) (by rw [z2h hpi]; exact hm)
   rw [hcv p m hp hm, getD_some hv] at this
   omega
 ·intro h p' v m hv hm
  have hp' := zai hv
  rw [za7 hil] at hp'
  obtain ⟨p, hpi, hpp, hp⟩ : ∃ p, p ≠ i ∧ (if p < i then p else p - 1) = p' ∧ p < l.length := by
   by_cases hh : p' < i
   ·exact ⟨p', by omega, by rw [if_pos hh], by omega⟩
   ·exact ⟨p' + 1, by omega, by rw [if_neg (by omega)]; omega, by omega⟩
  rw [← hpp] at hv hm
  rw [zyn (by omega) hil hp hpi] at hv
  rw [z2h hpi] at hm
  cases hv
  rw [hcv p m hp hm]
  have := h p (l.getD p 0) m (by rw [qb hp, qg, qb hp]; rfl) hm
  have e : cnt (cutD names i :: ds) m = cntD (cutD names i) m + cnt ds m := rfl
  omega
theorem z0c : ∀ (k : Nat) (l names : List Int) (ds : List Dg), names.Pairwise (· < ·) → l.length = k + 3 → names.length = k + 3 → (∀ v ∈ l, 1 ≤ v ∧ v ≤ 4611686018427387904) → triS k l names = some ds → tri k l names = some ds ∧ Cnts l names ds
 | 0, l, names, ds, hs, hl, hn, hb, h => by
  unfold triS at h
  refine ⟨by unfold tri; exact h, ?_⟩
  split at h
  ·rename_i e
   cases h
   intro p v m hv hm
   have := qp hv
   rw [e] at this
   simp at this
   rw [this]; rfl
  ·cases h
 | k + 1, l, names, ds, hs, hl, hn, hb, h => by
  unfold triS at h
  cases he : ear l with
  | none => rw [he] at h; cases h
  | some i =>
   rw [he] at h
   simp only [] at h
   split at h
   ·rename_i hok
    obtain ⟨hi, _⟩ := zf4 he
    obtain ⟨n1, n2, n3, n4, n5, n6⟩ := zgy (by omega : 3 ≤ l.length) hi
    obtain ⟨ds', h1, h2⟩ := qf.1 h
    subst h2
    have hE : (names.eraseIdx i).length = k + 3 := by rw [List.length_eraseIdx, if_pos (by omega)]; omega
    have hgd : ∀ p, p < l.length → 1 ≤ l.getD p 0 ∧ l.getD p 0 ≤ 4611686018427387904 := by
     intro p hp
     rw [qg, qb hp]
     exact hb _ (List.getElem_mem hp)
    have hw : ∀ p, p < l.length → w64 (l.getD p 0 - 1) = l.getD p 0 - 1 := by
     intro p hp
     have := hgd p hp
     exact zae (by omega) (by omega)
    have hb' : ∀ v ∈ cutL l i, 1 ≤ v ∧ v ≤ 4611686018427387904 := by
     intro v hv
     obtain ⟨p', hp'⟩ := List.mem_iff_getElem?.1 hv
     have hlt := zai hp'
     rw [za7 hi] at hlt
     obtain ⟨p, hpi, hpp, hp⟩ : ∃ p, p ≠ i ∧ (if p < i then p else p - 1) = p' ∧ p < l.length := by
      by_cases hh : p' < i
      ·exact ⟨p', by omega, by rw [if_pos hh], by omega⟩
      ·exact ⟨p' + 1, by omega, by rw [if_neg (by omega)]; omega, by omega⟩
     rw [← hpp, zyn (by omega) hi hp hpi] at hp'
     cases hp'
     unfold okC at hok
     have hok := ku hok
     have := hgd p hp
     unfold cutV
     split
     ·rename_i hh
      rcases hh with rfl | rfl
      ·refine ⟨hok.1, ?_⟩
       rw [hw _ hp]; omega
      ·refine ⟨hok.2, ?_⟩
       rw [hw _ hp]; omega
     ·exact this
    obtain ⟨g1, g2⟩ := z0c k (cutL l i) (names.eraseIdx i) ds' (hs.sublist (List.eraseIdx_sublist ..)) (by rw [za7 hi]; omega) hE hb' h1
    have g := (zgd k _ _ _ (hs.sublist (List.eraseIdx_sublist ..)) (by rw [za7 hi]; omega) hE g1).2
    refine ⟨?_, (zaav hs hl hn he g hw).1 g2⟩
    unfold tri
    rw [he]
    simp only []
    rw [g1]
    rfl
   ·cases h
theorem zac5 : ∀ (k : Nat) (l names : List Int) (ds : List Dg), names.Pairwise (· < ·) → l.length = k + 3 → names.length = k + 3 → k < 1000000 → tri k l names = some ds → Cnts l names ds → triS k l names = some ds
 | 0, l, names, ds, hs, hl, hn, hk, h, hc => by
  unfold tri at h
  unfold triS
  exact h
 | k + 1, l, names, ds, hs, hl, hn, hk, h, hc => by
  have hlen := (zgd _ _ _ _ hs hl hn h).1
  unfold tri at h
  unfold triS
  cases he : ear l with
  | none => rw [he] at h; cases h
  | some i =>
   rw [he] at h
   simp only [] at h ⊢
   obtain ⟨hi, _⟩ := zf4 he
   obtain ⟨n1, n2, n3, n4, n5, n6⟩ := zgy (by omega : 3 ≤ l.length) hi
   obtain ⟨ds', h1, h2⟩ := qf.1 h
   subst h2
   have hE : (names.eraseIdx i).length = k + 3 := by rw [List.length_eraseIdx, if_pos (by omega)]; omega
   have g := (zgd k _ _ _ (hs.sublist (List.eraseIdx_sublist ..)) (by rw [za7 hi]; omega) hE h1).2
   obtain ⟨f1, f2, f3, f4, f5⟩ := zns hs (by omega) (show i < names.length by omega)
   have hgd : ∀ p (hp : p < l.length), l.getD p 0 = 1 + (cntD (cutD names i) (names[p]'(by omega)) + cnt ds' (names[p]'(by omega))) := by
    intro p hp
    rw [qg, qb hp]
    exact hc p _ _ (qb hp) (qb (by omega))
   have hw : ∀ p, p < l.length → w64 (l.getD p 0 - 1) = l.getD p 0 - 1 := by
    intro p hp
    have e := hgd p hp
    have c1 := z1w ds' (names[p]'(by omega))
    have c2 : cntD (cutD names i) (names[p]'(by omega)) ≤ 2 ∧ 0 ≤ cntD (cutD names i) (names[p]'(by omega)) := by unfold cntD; split <;> split <;> omega
    rw [qk] at hlen
    rw [zae (by omega) (by omega)]
   have hok : okC l i = true := by
    unfold okC
    refine qd ⟨?_, ?_⟩
    ·rw [hw _ n1, hgd _ n1, f5 _ _ (qb (by omega)), if_pos (.inl (by rw [hn, hl]))]
     have := z1w ds' (names[nbB l.length i]'(by omega))
     omega
    ·rw [hw _ n2, hgd _ n2, f5 _ _ (qb (by omega)), if_pos (.inr (by rw [hn, hl]))]
     have := z1w ds' (names[nbC l.length i]'(by omega))
     omega
   rw [if_pos hok, zac5 k _ _ _ (hs.sublist (List.eraseIdx_sublist ..)) (by rw [za7 hi]; omega) hE (by omega) h1 ((zaav hs hl hn he g hw).2 hc)]
   rfl
def ltD (d e : Dg) : Bool := decide (d.1 < e.1 ∨ d.1 = e.1 ∧ d.2 < e.2)
def leD (d e : Dg) : Bool := !ltD e d
def cmpD (d e : Dg) : Int := if ltD d e then -1 else if ltD e d then 1 else 0
theorem zzj {d e : Dg} : leD d e = true ↔ d.1 < e.1 ∨ d.1 = e.1 ∧ d.2 ≤ e.2 := by
 unfold leD ltD; simp; omega
theorem zg2 {d e : Dg} : ltD d e = true ↔ d.1 < e.1 ∨ d.1 = e.1 ∧ d.2 < e.2 := by
 unfold ltD; simp
theorem z3d {a b c : Dg} (h1 : leD a b = true) (h2 : leD b c = true) : leD a c = true := by
 rw [zzj] at *; omega
theorem za0v {a b : Dg} (h1 : leD a b = true) (h2 : leD b a = true) : a = b := by
 rw [zzj] at *
 exact Prod.ext (by omega) (by omega)
theorem z3c {a b : Dg} (h : ltD a b = true) : leD a b = true := by
 rw [zzj]; rw [zg2] at h; omega
theorem zn4 {a b : Dg} (h : ltD a b = false) : leD b a = true := by unfold leD; rw [h]; rfl
theorem zbjq {a b : Dg} (h : leD a b = true) (hne : a ≠ b) : ltD a b = true := by
 rw [zzj] at h; rw [zg2]
 rcases h with h | ⟨h1, h2⟩
 ·exact .inl h
 ·refine .inr ⟨h1, ?_⟩
  rcases Int.lt_or_lt_of_ne (fun e => hne (Prod.ext h1 e)) with h | h <;> omega
def zgi (l : List Dg) : Prop := l.Pairwise fun a b => leD a b = true
theorem zz7 {l m : List Dg} (h1 : zgi l) (h2 : zgi m) (hp : l.Perm m) : l = m :=
 List.Perm.eq_of_pairwise (fun a b _ _ h1 h2 => za0v h1 h2) h1 h2 hp
def insD (d : Dg) (l : List Dg) : List Dg := l.takeWhile (ltD · d) ++ d :: l.dropWhile (ltD · d)
theorem zth (d : Dg) (l : List Dg) : (insD d l).Perm (d :: l) := by
 unfold insD
 have h := List.perm_middle (a := d) (l₁ := l.takeWhile (ltD · d)) (l₂ := l.dropWhile (ltD · d))
 rwa [List.takeWhile_append_dropWhile] at h
theorem zti (d : Dg) : ∀ {l : List Dg}, zgi l → zgi (insD d l)
 | [], _ => by simp [insD, zgi]
 | x :: t, h => by
  obtain ⟨h1, h2⟩ := List.pairwise_cons.1 h
  unfold insD
  cases hx : ltD x d with
  | true =>
   rw [List.takeWhile_cons, List.dropWhile_cons]
   simp only [hx, if_true, List.cons_append]
   refine List.pairwise_cons.2 ⟨fun y hy => ?_, zti d h2⟩
   have : y ∈ d :: t := (zth d t).mem_iff.1 hy
   rcases List.mem_cons.1 this with rfl | hy
   ·exact z3c hx
   ·exact h1 y hy
  | false =>
   rw [List.takeWhile_cons, List.dropWhile_cons]
   simp only [hx, qj, if_false, qw]
   refine List.pairwise_cons.2 ⟨fun y hy => ?_, h⟩
   rcases List.mem_cons.1 hy with rfl | hy
   ·exact zn4 hx
   ·exact z3d (zn4 hx) (h1 y hy)
def zha (l : List Dg) : List Dg := l.foldl (fun out d => insD d out) []
theorem zz5 : ∀ (l out : List Dg), zgi out → zgi (l.foldl (fun out d => insD d out) out) ∧ (l.foldl (fun out d => insD d out) out).Perm (out ++ l)
 | [], out, h => ⟨h, by simp⟩
 | d :: l, out, h => by
  obtain ⟨h1, h2⟩ := zz5 l (insD d out) (zti d h)
  refine ⟨h1, h2.trans ?_⟩
  exact ((zth d out).append_right l).trans (by simpa using (List.perm_middle (a := d) (l₁ := out) (l₂ := l)).symm)
theorem zpo (l : List Dg) : zgi (zha l) := (zz5 l [] (by simp [zgi])).1
theorem zfg (l : List Dg) : (zha l).Perm l := by have h := (zz5 l [] (by simp [zgi])).2; rwa [qw] at h
theorem zfu (l : List Dg) : (zha l).length = l.length := (zfg l).length_eq
def gD (l : List Dg) (p : Nat) : Dg := l.getD p (0, 0)
def zux (l : List Dg) (j : Nat) : List Dg := (l.set (j + 1) (gD l j)).set j (gD l (j + 1))
def zh4 : Nat → List Dg → List Dg
 | 0, l => l
 | j + 1, l => if ltD (gD l (j + 1)) (gD l j) then zh4 j (zux l j) else l
theorem zlx {l : List Dg} {p : Nat} (h : p < l.length) : gD l p = l[p] := by unfold gD; rw [qg, qb h]; rfl
theorem zdh {l : List Dg} {p : Nat} (h : p < l.length) : l[p]? = some (gD l p) := by rw [zlx h, qb h]
theorem zfv (l : List Dg) (j : Nat) : (zux l j).length = l.length := by simp [zux]
theorem zeh : ∀ (j : Nat) (l : List Dg), (zh4 j l).length = l.length
 | 0, l => rfl
 | j + 1, l => by
  unfold zh4
  split
  ·rw [zeh, zfv]
  ·rfl
theorem zafp {l : List Dg} {j : Nat} (h : j + 1 < l.length) : (zux l j).Perm l := by
 unfold zux
 rw [zlx h, zlx (by omega)]
 exact List.set_set_perm (by omega) (by omega)
theorem zwz : ∀ {j : Nat} {l : List Dg}, j < l.length → (zh4 j l).Perm l
 | 0, l, _ => .refl _
 | j + 1, l, h => by
  unfold zh4
  split
  ·exact (zwz (by rw [zfv]; omega)).trans (zafp h)
  ·exact .refl _
theorem zmm {l : List Dg} {j p : Nat} (h : j + 1 < l.length) : gD (zux l j) p = if p = j then gD l (j + 1) else if p = j + 1 then gD l j else gD l p := by
 unfold zux
 conv => lhs; unfold gD
 simp only [qg]
 by_cases e1 : p = j
 ·subst e1
  rw [List.getElem?_set_self (by simp; omega), if_pos rfl]; rfl
 ·rw [kh (fun e => e1 e.symm), if_neg e1]
  by_cases e2 : p = j + 1
  ·subst e2
   rw [List.getElem?_set_self h, if_pos rfl]; rfl
  ·rw [kh (fun e => e2 e.symm), if_neg e2]
   unfold gD; rw [qg]
def SUp (l : List Dg) (i : Nat) : Prop := ∀ p q, p < q → q ≤ i → leD (gD l p) (gD l q) = true
theorem zacq : ∀ (j : Nat) (l : List Dg) (i : Nat), j < l.length → j ≤ i → (∀ p q, p < q → q ≤ i → p ≠ j → q ≠ j → leD (gD l p) (gD l q) = true) → (∀ q, j < q → q ≤ i → leD (gD l j) (gD l q) = true) → SUp (zh4 j l) i
 | 0, l, i, hl, hi, h1, h2 => by
  intro p q hpq hq
  by_cases e : p = 0
  ·subst e; exact h2 q hpq hq
  ·exact h1 p q hpq hq e (by omega)
 | j + 1, l, i, hl, hi, h1, h2 => by
  unfold zh4
  cases hlt : ltD (gD l (j + 1)) (gD l j) with
  | true =>
   simp only [if_true]
   refine zacq j (zux l j) i (by rw [zfv]; omega) (by omega) (fun p q hpq hq hp hq' => ?_) (fun q hq hqi => ?_)
   ·rw [zmm hl, zmm hl, if_neg hp, if_neg hq']
    by_cases e1 : p = j + 1
    ·rw [if_pos e1, if_neg (by omega)]
     exact h1 j q (by omega) hq (by omega) (by omega)
    ·rw [if_neg e1]
     by_cases e2 : q = j + 1
     ·rw [if_pos e2]
      exact h1 p j (by omega) (by omega) e1 (by omega)
     ·rw [if_neg e2]
      exact h1 p q hpq hq e1 e2
   ·rw [zmm hl, zmm hl, if_pos rfl, if_neg (by omega)]
    by_cases e2 : q = j + 1
    ·rw [if_pos e2]; exact z3c hlt
    ·rw [if_neg e2]; exact h2 q (by omega) hqi
  | false =>
   simp only [qj, if_false]
   intro p q hpq hq
   by_cases e1 : p = j + 1
   ·subst e1; exact h2 q hpq hq
   ·by_cases e2 : q = j + 1
    ·subst e2
     have := zn4 hlt
     by_cases e3 : p = j
     ·subst e3; exact this
     ·exact z3d (h1 p j (by omega) (by omega) e1 (by omega)) this
    ·exact h1 p q hpq hq e1 e2
def ztm : Nat → Nat → List Dg → List Dg
 | 0, _, l => l
 | n + 1, i, l => ztm n (i + 1) (zh4 i l)
theorem ztn : ∀ (n i : Nat) (l : List Dg), 0 < i → i + n = l.length → SUp l (i - 1) → SUp (ztm n i l) (l.length - 1) ∧ (ztm n i l).Perm l
 | 0, i, l, hi, hl, h => by
  refine ⟨?_, .refl _⟩
  rw [← hl]
  exact h
 | n + 1, i, l, hi, hl, h => by
  have hs := zacq i l i (by omega) (qi _) (fun p q hpq hq hp hq' => h p q hpq (by omega)) (fun q h1 h2 => by omega)
  obtain ⟨h1, h2⟩ := ztn n (i + 1) (zh4 i l) (by omega) (by rw [zeh]; omega) (by simpa using hs)
  rw [zeh] at h1
  exact ⟨h1, h2.trans (zwz (by omega))⟩
theorem zasd (l : List Dg) : ztm (l.length - 1) 1 l = zha l := by
 by_cases h0 : l.length = 0
 ·have : l = [] := ks h0
  subst this; rfl
 obtain ⟨h1, h2⟩ := ztn (l.length - 1) 1 l (by omega) (by omega) (fun p q h1 h2 => by omega)
 refine zz7 ?_ (zpo l) (h2.trans (zfg l).symm)
 unfold zgi
 rw [List.pairwise_iff_getElem]
 intro p q hp hq hpq
 have hlen := h2.length_eq
 have := h1 p q hpq (by omega)
 rwa [zlx hp, zlx hq] at this
theorem zka (d : Dg) : ∀ (l : List Dg), ∃ k, k ≤ l.length ∧ l.takeWhile (ltD · d) = l.take k ∧ l.dropWhile (ltD · d) = l.drop k ∧ (∀ p, p < k → ltD (gD l p) d = true) ∧ (k < l.length → ltD (gD l k) d = false)
 | [] => ⟨0, by simp, by simp, by simp, by simp, by simp⟩
 | x :: t => by
  cases hx : ltD x d with
  | false => exact ⟨0, by simp, by simp [hx], by simp [hx], by simp, by simp [gD, hx]⟩
  | true =>
   obtain ⟨k, h1, h2, h3, h4, h5⟩ := zka d t
   refine ⟨k + 1, by simpa using h1, by simp [hx, h2], by simp [hx, h3], fun p hp => ?_, fun hk => ?_⟩
   ·cases p with
    | zero => simpa [gD] using hx
    | succ p => simpa [gD] using h4 p (by omega)
   ·simpa [gD] using h5 (by simpa using hk)
def inDg (n : Int) (d : Dg) : Bool := inB 0 (n - 1) d.1 && inB 0 (n - 1) d.2 && decide (d.2 - d.1 > 1) && !(d.1 == 0 && d.2 == n - 1)
def badT (n : Int) (ds : List Dg) (k : Nat) : Bool := !inDg n (gD ds k) || (decide (0 < k) && !ltD (gD ds (k - 1)) (gD ds k)) || (ds.take k).any (zbc (gD ds k))
def z7l (n : Int) (ds : List Dg) : Bool := inB 3 12 n && decide ((ds.length : Int) = n - 3) && !(List.range ds.length).any (badT n ds)
theorem zl2 (n : Int) (ds : List Dg) : z7l n ds = true ↔ (3 ≤ n ∧ n ≤ 12) ∧ (ds.length : Int) = n - 3 ∧ (∀ d ∈ ds, inDg n d = true) ∧ ds.Pairwise (fun d e => ltD d e = true ∧ zbc e d = false) := by
 unfold z7l
 simp only [qo, zay, kf, Bool.not_eq_true', and_assoc]
 refine and_congr_right fun h1 => and_congr_right fun h2 => and_congr_right fun h3 => ?_
 rw [List.any_eq_false]
 simp only [List.mem_range, badT, Bool.or_eq_true, Bool.not_eq_true', qo, kf, not_or, not_and, Bool.not_eq_false, Bool.not_eq_true]
 have ltT : ∀ {a b c : Dg}, ltD a b = true → ltD b c = true → ltD a c = true := by
  intro a b c h1 h2; rw [zg2] at *; omega
 constructor
 ·intro h
  refine ⟨fun d hd => ?_, ?_⟩
  ·obtain ⟨k, hk, e⟩ := List.getElem_of_mem hd
   have := (h k hk).1.1
   rwa [zlx hk, e] at this
  ·have up : ∀ m p, p + m + 1 < ds.length → ltD (gD ds p) (gD ds (p + m + 1)) = true := by
    intro m
    induction m with
    | zero => intro p hp; have := (h (p + 1) hp).1.2 (by omega); simpa using this
    | succ m ih =>
     intro p hp
     have := (h (p + m + 1 + 1) (by omega)).1.2 (by omega)
     rw [show p + m + 1 + 1 - 1 = p + m + 1 by omega] at this
     have e2 := ltT (ih p (by omega)) this
     rwa [show p + (m + 1) + 1 = p + m + 1 + 1 by omega]
   rw [List.pairwise_iff_getElem]
   intro p q hp hq hpq
   have h2' := up (q - p - 1) p (by omega)
   rw [show p + (q - p - 1) + 1 = q by omega, zlx hp, zlx hq] at h2'
   refine ⟨h2', ?_⟩
   have := (h q hq).2
   rw [List.any_eq_false] at this
   have := this ds[p] (List.mem_take_iff_getElem.2 ⟨p, by omega, rfl⟩)
   rw [zlx hq] at this
   simpa using this
 ·rintro ⟨g1, g2⟩ k hk
  rw [List.pairwise_iff_getElem] at g2
  refine ⟨⟨by rw [zlx hk]; exact g1 _ (List.getElem_mem hk), fun hk0 => ?_⟩, ?_⟩
  ·rw [zlx hk, zlx (show k - 1 < ds.length by omega)]
   exact (g2 (k - 1) k (by omega) hk (by omega)).1
  ·rw [List.any_eq_false]
   intro e he
   obtain ⟨p, hp, e'⟩ := List.mem_take_iff_getElem.1 he
   have := (g2 p k (by omega) hk (by omega)).2
   rw [e', ← zlx hk] at this
   simpa using this
theorem zsx (d e : Dg) : zbc d e = zbc e d := by
 unfold zbc
 exact Bool.or_comm _ _
theorem zv6 {n : Nat} {names : List Int} {ds : List Dg} (hn : 3 ≤ n ∧ n ≤ 12) (hnm : ∀ m ∈ names, 0 ≤ m ∧ m < n) (g : Good names ds) (hl : ds.length = n - 3) : z7l n (zha ds) = true := by
 rw [zl2]
 refine ⟨by omega, by rw [zfu]; omega, fun d hd => ?_, ?_⟩
 ·obtain ⟨q1, q2, q3, ⟨m, q4, q5⟩, ⟨m', q6, q7⟩⟩ := g.1 d ((zfg ds).mem_iff.1 hd)
  have a1 := hnm _ q1
  have a2 := hnm _ q2
  have a3 := hnm _ q6
  have i1 : inB 0 ((n : Int) - 1) d.1 = true := zay.2 (by omega)
  have i2 : inB 0 ((n : Int) - 1) d.2 = true := zay.2 (by omega)
  unfold inDg
  rw [i1, i2]
  simp
  omega
 ·have h1 : (zha ds).Pairwise zbe2 := (List.Perm.pairwise_iff (fun {x y} h => ⟨h.1.symm, by rw [zsx]; exact h.2⟩) (zfg ds)).2 g.2
  have h2 := zpo ds
  exact (List.Pairwise.and h2 h1).imp fun {a b} h => ⟨zbjq h.1 h.2.1, by rw [zsx]; exact h.2.2⟩
def znp (out : List Int) (d : Dg) : List Int := ((out.set d.1.toNat (out.getD d.1.toNat 0 + 1))).set d.2.toNat (out.getD d.2.toNat 0 + 1)
theorem zsn {out : List Int} {d : Dg} {p : Nat} (h1 : 0 ≤ d.1) (h2 : d.1 < d.2) (h3 : d.2 < out.length) (hp : p < out.length) : (znp out d).getD p 0 = out.getD p 0 + cntD d p := by
 unfold znp cntD
 simp only [qg]
 by_cases e2 : d.2.toNat = p
 ·subst e2
  rw [List.getElem?_set_self (by simp; omega), if_neg (by omega), if_pos (by omega)]
  simp
 ·rw [kh e2]
  by_cases e1 : d.1.toNat = p
  ·subst e1
   rw [List.getElem?_set_self (by omega), if_pos (by omega), if_neg (by omega)]
   simp
  ·rw [kh e1, if_neg (by omega), if_neg (by omega)]
   simp
theorem zil (out : List Int) (d : Dg) : (znp out d).length = out.length := by simp [znp]
def quid (n : Nat) (ds : List Dg) : List Int := (List.range n).map fun (p : Nat) => 1 + cnt ds (p : Int)
theorem zlr (d : Dg) (t : List Dg) (m : Int) : cnt (d :: t) m = cntD d m + cnt t m := rfl
theorem zaau {ds es : List Dg} (h : ds.Perm es) (m : Int) : cnt ds m = cnt es m := by
 induction h with
 | nil => rfl
 | cons x _ ih => rw [zlr, zlr, ih]
 | swap x y l => simp only [zlr]; omega
 | trans _ _ h1 h2 => rw [h1, h2]
theorem zso (n : Nat) : ∀ (ds : List Dg) (out : List Int), out.length = n → (∀ d ∈ ds, 0 ≤ d.1 ∧ d.1 < d.2 ∧ d.2 < (n : Int)) → (ds.foldl znp out).length = n ∧ ∀ p, p < n → (ds.foldl znp out).getD p 0 = out.getD p 0 + cnt ds p
 | [], out, hl, h => ⟨hl, fun p hp => by simp [cnt]⟩
 | d :: t, out, hl, h => by
  have hd := h d (by simp)
  obtain ⟨h1, h2⟩ := zso n t (znp out d) (by rw [zil, hl]) (fun e he => h e (by simp [he]))
  refine ⟨h1, fun p hp => ?_⟩
  rw [List.foldl_cons, h2 p hp, zsn hd.1 hd.2.1 (by omega) (by omega), zlr]
  omega
def zb0 (n : Nat) : List Int := (List.range n).map fun (k : Nat) => (k : Int)
theorem za5 (n : Nat) : (zb0 n).length = n := by simp [zb0]
theorem zwd (n : Nat) : zb0 (n + 1) = zb0 n ++ [(n : Int)] := by simp [zb0, List.range_succ]
theorem z3p {n p : Nat} (h : p < n) : (zb0 n)[p]? = some (p : Int) := by simp [zb0, h]
theorem zcc (n : Nat) : (zb0 n).Pairwise (· < ·) := by
 rw [List.pairwise_iff_getElem]
 intro i j hi hj hij
 simp [zb0]
 omega
theorem zl6 {n : Nat} {m : Int} (h : m ∈ zb0 n) : 0 ≤ m ∧ m < n := by
 obtain ⟨p, hp, e⟩ := List.mem_map.1 h
 have := List.mem_range.1 hp
 subst e
 omega
theorem zst {l : List Int} {ds : List Dg} : Cnts l (zb0 l.length) ds ↔ quid l.length ds = l := by
 constructor
 ·intro h
  refine List.ext_getElem (by simp [quid]) fun p hp hp' => ?_
  have := h p l[p] (p : Int) (qb hp') (z3p hp')
  rw [this]
  simp [quid]
 ·intro h p v m hv hm
  have hp := zai hv
  rw [z3p hp] at hm
  cases hm
  rw [← h] at hv
  simp only [quid, qn, List.getElem?_range hp, Option.map_some, qc] at hv
  exact hv.symm
def trOf (l : List Int) : Option (List Dg) :=
 if inB 3 12 l.length then
  match tri (l.length - 3) l (zb0 l.length) with
  | some ds => if quid l.length ds = l then some (zha ds) else none
  | none => none
 else none
theorem z4w (l : List Int) (h : l.all (inB 1 12) = true) (hn : inB 3 12 l.length = true) : (triS (l.length - 3) l (zb0 l.length)).map zha = trOf l := by
 rw [zay] at hn
 have hb : ∀ v ∈ l, 1 ≤ v ∧ v ≤ 4611686018427387904 := fun v hv => by
  have := zay.1 (qt.1 h v hv)
  omega
 unfold trOf
 rw [if_pos (zay.2 hn)]
 have hl : l.length = l.length - 3 + 3 := by omega
 cases hS : triS (l.length - 3) l (zb0 l.length) with
 | some ds =>
  obtain ⟨g1, g2⟩ := z0c _ _ _ _ (zcc _) hl (by rw [za5]; omega) hb hS
  rw [g1]
  simp only []
  rw [if_pos (zst.1 g2)]
  rfl
 | none =>
  cases hT : tri (l.length - 3) l (zb0 l.length) with
  | none => rfl
  | some ds =>
   simp only []
   split
   ·rename_i hq
    have := zac5 _ _ _ _ (zcc _) hl (by rw [za5]; omega) (by omega) hT (zst.2 hq)
    rw [this] at hS
    cases hS
   ·rfl
theorem zapk : ∀ {ds : List Dg} {m : Int}, (∀ d ∈ ds, d.1 < d.2) → cnt ds m ≤ ds.length
 | [], m, h => by simp [cnt]
 | d :: t, m, h => by
  have := zapk (ds := t) (m := m) fun d hd => h d (by simp [hd])
  rw [zlr, qk]
  have q := h d (by simp)
  have : cntD d m ≤ 1 := by unfold cntD; split <;> split <;> omega
  omega
theorem zac1 (l : List Int) (h : l.all (inB 1 12) = false) : trOf l = none := by
 unfold trOf
 split
 ·rename_i hn
  rw [zay] at hn
  split
  ·rename_i ds hT
   rw [if_neg]
   intro hq
   have hds := (zgd _ _ _ _ (zcc _) (by omega) (by rw [za5]; omega) hT)
   rw [List.all_eq_false] at h
   obtain ⟨v, hv, hb⟩ := h
   rw [← hq] at hv
   obtain ⟨p, hp, e⟩ := List.mem_map.1 hv
   have c1 := z1w ds p
   have c2 : cnt ds p ≤ ds.length := zapk fun d hd => (hds.2.1 d hd).2.2.1
   apply hb
   rw [zay, ← e]
   omega
  ·rfl
 ·rfl
def triW : Nat → List Int → List Int → Option (List Int × List Dg)
 | 0, l, _ => some (l, [])
 | k + 1, l, names => match ear l with
  | none => none
  | some i => (triW k (cutL l i) (names.eraseIdx i)).map fun r => (r.1, cutD names i :: r.2)
def zmn : Nat → List Int → List Int → Option (List Int × List Dg)
 | 0, l, _ => some (l, [])
 | k + 1, l, names => match ear l with
  | none => none
  | some i => if okC l i then (zmn k (cutL l i) (names.eraseIdx i)).map fun r => (r.1, cutD names i :: r.2) else none
theorem zbjz : ∀ (k : Nat) (l names : List Int), tri k l names = (triW k l names).bind fun r => if r.1 = [1, 1, 1] then some r.2 else none
 | 0, l, names => by simp [tri, triW]
 | k + 1, l, names => by
  unfold tri triW
  cases ear l with
  | none => rfl
  | some i =>
   simp only []
   rw [zbjz k]
   cases triW k (cutL l i) (names.eraseIdx i) with
   | none => rfl
   | some r => by_cases h : r.1 = [1, 1, 1] <;> simp [h]
theorem za6d : ∀ (k : Nat) (l names : List Int), triS k l names = (zmn k l names).bind fun r => if r.1 = [1, 1, 1] then some r.2 else none
 | 0, l, names => by simp [triS, zmn]
 | k + 1, l, names => by
  unfold triS zmn
  cases ear l with
  | none => rfl
  | some i =>
   simp only []
   split
   ·rw [za6d k]
    cases zmn k (cutL l i) (names.eraseIdx i) with
    | none => rfl
    | some r => by_cases h : r.1 = [1, 1, 1] <;> simp [h]
   ·rfl
theorem zac4 : ∀ (k : Nat) (l names : List Int) (r : List Int × List Dg), l.length = k + 3 → triW k l names = some r → r.1.length = 3 ∧ r.2.length = k
 | 0, l, names, r, hl, h => by
  unfold triW at h
  cases h
  exact ⟨hl, rfl⟩
 | k + 1, l, names, r, hl, h => by
  unfold triW at h
  cases he : ear l with
  | none => rw [he] at h; cases h
  | some i =>
   rw [he] at h
   obtain ⟨r', h1, h2⟩ := qf.1 h
   subst h2
   obtain ⟨g1, g2⟩ := zac4 k _ _ r' (by rw [za7 (zf4 he).1]; omega) h1
   exact ⟨g1, by simp [g2]⟩
theorem z4x : ∀ (k : Nat) (l names : List Int) (r : List Int × List Dg), l.length = k + 3 → zmn k l names = some r → r.1.length = 3 ∧ r.2.length = k
 | 0, l, names, r, hl, h => by
  unfold zmn at h
  cases h
  exact ⟨hl, rfl⟩
 | k + 1, l, names, r, hl, h => by
  unfold zmn at h
  cases he : ear l with
  | none => rw [he] at h; cases h
  | some i =>
   rw [he] at h
   simp only [] at h
   split at h
   ·obtain ⟨r', h1, h2⟩ := qf.1 h
    subst h2
    obtain ⟨g1, g2⟩ := z4x k _ _ r' (by rw [za7 (zf4 he).1]; omega) h1
    exact ⟨g1, by simp [g2]⟩
   ·cases h
theorem zati {n i : Nat} (hn : 3 ≤ n) (hn2 : n < 1000000) (hi : i < n) :
  Int.tmod (w64 ((w64 ((i : Int) + (n : Int))) - 1)) (n : Int) = (nbB n i : Int) ∧ Int.tmod (w64 ((i : Int) + 1)) (n : Int) = (nbC n i : Int) := by
 rw [zae (z := (i : Int) + n) (by omega) (by omega), zae (by omega) (by omega), zae (by omega) (by omega)]
 rw [Int.tmod_eq_emod_of_nonneg (by omega), Int.tmod_eq_emod_of_nonneg (by omega)]
 unfold nbB nbC
 rw [show (i : Int) + n - 1 = ((i + n - 1 : Nat) : Int) by omega, show (i : Int) + 1 = ((i + 1 : Nat) : Int) by omega]
 exact ⟨(Int.natCast_emod _ _).symm, (Int.natCast_emod _ _).symm⟩
theorem za8 {l : List Int} {p : Nat} (h : p < l.length) : l[p]? = some (l.getD p 0) := by rw [qg, qb h]; rfl
theorem zet {X : Type} (l : List X) (i : Nat) : l.take i ++ l.drop (i + 1) = l.eraseIdx i := (List.eraseIdx_eq_take_drop_succ l i).symm
def z5t : FSh := ⟨[(.ag [(.si .i64), (.si .i64)]), (.ag [(.si .i64), (.si .i64)])], []⟩
def z5s : List FO := [⟨[(.one .sb)], []⟩]
def zaho : ((Int × Int) × (Int × Int)) → T Bool := fun ((d_0, d_1), (e_0, e_1)) =>(.test (decide (d_0 < e_0)) (.ret true) (.test (d_0 == e_0) (.ret (decide (d_1 < e_1))) (.ret false)))
def F121 (v) := (zaho v).run
def za2o : TEnv := E0
theorem zavm : (za2o).OK := E0ok
def zahp : Nat → Option zal := fun id => none
theorem za65 : FOK Tryz.prog zas1 z5t z5s F121 :=
 zao (E := za2o) (zavm) (told := zahp) (fl := []) (c := zac zaqd) (s := z5t) (l := z5s) (tree := zaho) zaq6 (by kernel_rfl) (by kernel_rfl) (by kernel_rfl) (zab (ls := []) (by kernel_rfl) trivial) (fun v => by kernel_rfl)
theorem zahn (d e : Dg) : F121 (d, e) = some (ltD d e) := by
 obtain ⟨a, b⟩ := d
 obtain ⟨c, f⟩ := e
 simp only [F121, zaho, T.run, ltD]
 by_cases h1 : a < c
 ·simp [h1]
 ·by_cases h2 : a = c
  ·subst h2; simp [h1]
  ·simp [h1, h2]
def z5e : FSh := ⟨[(.one (.sl (.pair (.int .i64) (.int .i64)) false false))], []⟩
def zmv : LSh := ⟨(fun ex => match ex with | .norm => (nz [3, 5, 6, 8, 9, 10]) | .exit i => if i = 2 then (nz [3, 5, 6, 8, 9, 10]) else if i = 1 then (nz [3, 8, 9, 10]) else if i = 0 then (nz [3]) else [] | .ret => (nz [2])), [(3, qo4), (5, (.one (.pf 1 0 0))), (6, qo1), (8, (.one (.sl (.pair (.int .i64) (.int .i64)) false false))), (9, qo1), (10, qo1)], [(.row 0 (.pair (.int .i64) (.int .i64))), (.rcd 0 [(.si .i64), (.si .i64)])], [⟨(.exit 2), [(3, qo4), (5, (.one (.pf 1 0 0))), (6, qo1), (8, (.one (.sl (.pair (.int .i64) (.int .i64)) false false))), (9, qo1), (10, qo1)], [(.row 0 (.pair (.int .i64) (.int .i64))), (.rcd 0 [(.si .i64), (.si .i64)])]⟩], [], []⟩
def zco : ((Unit × Unit × Int × List (Int × Int) × Int × Int) × (List (Int × Int) × (Int × Int))) → T (((Unit × Unit × Int × List (Int × Int) × Int × Int) × (List (Int × Int) × (Int × Int))) ⊕ ((Unit × Unit × Int × List (Int × Int) × Int × Int) × (List (Int × Int) × (Int × Int)))) := fun (((), (), k, t8, t9, t10), (out, (d_0, d_1))) =>(.test (decide (k < (out.length : Int))) (.test (decide ((0 ≤ k) ∧ (k < (out.length : Int)))) (.sub (out[(0 + (Int.toNat k))]?) fun z0 =>(.sub (F121 ((z0.1, z0.2), (d_0, d_1))) fun z1 =>(.test z1 (qz out (.ret (Sum.inl (((), ((), ((w64 (k + 1)), (t8, (t9, t10))))), (out, (d_0, d_1)))))) (qz out (.ret (Sum.inr (((), ((), (k, (t8, (t9, t10))))), (out, (d_0, d_1))))))))) .fail) (qz out (.ret (Sum.inr (((), ((), (k, (t8, (t9, t10))))), (out, (d_0, d_1)))))))
def zqi (v) := zav (fun v => (zco v).run) v
def zmu : LSh := ⟨(fun ex => match ex with | .norm => (nz [3, 8, 9, 10]) | .exit i => if i = 0 then (nz [3]) else [] | .ret => (nz [2])), [(3, qo4), (8, (.one (.sl (.pair (.int .i64) (.int .i64)) false false))), (9, qo1), (10, qo1)], [(.row 0 (.pair (.int .i64) (.int .i64)))], [⟨(.exit 0), [(3, qo4)], [(.row 0 (.pair (.int .i64) (.int .i64)))]⟩], [], []⟩
def zcn : ((Unit × List (Int × Int) × Int × Int) × List (Int × Int)) → T (((Unit × List (Int × Int) × Int × Int) × List (Int × Int)) ⊕ (Unit × List (Int × Int))) := fun (((), t8, t9, t10), out) =>(.test (decide (t10 < t9)) (.test (decide ((0 ≤ t10) ∧ (t10 < (t8.length : Int)))) (.sub (t8[(Int.toNat t10)]?) fun z0 =>(qz out (.sub (zqi (((), ((), ((0 : Int), (t8, (t9, t10))))), (out, (z0.1, z0.2)))) fun z1 =>(.test (decide (0 ≤ z1.1.2.2.1)) (.test (decide ((0 ≤ (Int.toNat z1.1.2.2.1)) ∧ ((Int.toNat z1.1.2.2.1) ≤ z1.2.1.length))) (.test (decide ((0 + ((Int.toNat z1.1.2.2.1) - 0)) ≤ z1.2.1.length)) (.test true (.test (decide ((2 * ((0 + (List.length (win z1.2.1 0 ((Int.toNat z1.1.2.2.1) - 0)))) * 17)) ≤ 140737488355328)) (.test (decide (1 ≤ (List.length (List.set (List.replicate 1 ((0 : Int), (0 : Int))) 0 (z1.2.2.1, z1.2.2.2))))) (.test (decide ((0 + (0 + (List.length (win z1.2.1 0 ((Int.toNat z1.1.2.2.1) - 0))))) ≤ (List.length ((win (List.replicate 0 ((0 : Int), (0 : Int))) 0 0) ++ (win z1.2.1 0 ((Int.toNat z1.1.2.2.1) - 0)))))) (.test (decide ((2 * (((0 + (List.length (win z1.2.1 0 ((Int.toNat z1.1.2.2.1) - 0)))) + (List.length (win (List.set (List.replicate 1 ((0 : Int), (0 : Int))) 0 (z1.2.2.1, z1.2.2.2)) 0 1))) * 17)) ≤ 140737488355328)) (.test (decide (0 ≤ z1.1.2.2.1)) (.test (decide (((Int.toNat z1.1.2.2.1) ≤ z1.2.1.length) ∧ (z1.2.1.length ≤ z1.2.1.length))) (.test (decide (((0 + (Int.toNat z1.1.2.2.1)) + (z1.2.1.length - (Int.toNat z1.1.2.2.1))) ≤ z1.2.1.length)) (.test (decide ((0 + ((0 + (List.length (win z1.2.1 0 ((Int.toNat z1.1.2.2.1) - 0)))) + (List.length (win (List.set (List.replicate 1 ((0 : Int), (0 : Int))) 0 (z1.2.2.1, z1.2.2.2)) 0 1)))) ≤ (List.length ((win ((win (List.replicate 0 ((0 : Int), (0 : Int))) 0 0) ++ (win z1.2.1 0 ((Int.toNat z1.1.2.2.1) - 0))) 0 (0 + (List.length (win z1.2.1 0 ((Int.toNat z1.1.2.2.1) - 0))))) ++ (win (List.set (List.replicate 1 ((0 : Int), (0 : Int))) 0 (z1.2.2.1, z1.2.2.2)) 0 1))))) (.test (decide ((2 * ((((0 + (List.length (win z1.2.1 0 ((Int.toNat z1.1.2.2.1) - 0)))) + (List.length (win (List.set (List.replicate 1 ((0 : Int), (0 : Int))) 0 (z1.2.2.1, z1.2.2.2)) 0 1))) + (List.length (win z1.2.1 (0 + (Int.toNat z1.1.2.2.1)) (z1.2.1.length - (Int.toNat z1.1.2.2.1))))) * 17)) ≤ 140737488355328)) (.test (decide ((0 = 0) ∧ ((((0 + (List.length (win z1.2.1 0 ((Int.toNat z1.1.2.2.1) - 0)))) + (List.length (win (List.set (List.replicate 1 ((0 : Int), (0 : Int))) 0 (z1.2.2.1, z1.2.2.2)) 0 1))) + (List.length (win z1.2.1 (0 + (Int.toNat z1.1.2.2.1)) (z1.2.1.length - (Int.toNat z1.1.2.2.1))))) = (List.length ((win ((win ((win (List.replicate 0 ((0 : Int), (0 : Int))) 0 0) ++ (win z1.2.1 0 ((Int.toNat z1.1.2.2.1) - 0))) 0 (0 + (List.length (win z1.2.1 0 ((Int.toNat z1.1.2.2.1) - 0))))) ++ (win (List.set (List.replicate 1 ((0 : Int), (0 : Int))) 0 (z1.2.2.1, z1.2.2.2)) 0 1)) 0 ((0 + (List.length (win z1.2.1 0 ((Int.toNat z1.1.2.2.1) - 0)))) + (List.length (win (List.set (List.replicate 1 ((0 : Int), (0 : Int))) 0 (z1.2.2.1, z1.2.2.2)) 0 1)))) ++ (win z1.2.1 (0 + (Int.toNat z1.1.2.2.1)) (z1.2.1.length - (Int.toNat z1.1.2.2.1)))))))) (.ret (Sum.inl (((), (z1.1.2.2.2.1, (z1.1.2.2.2.2.1, (w64 (z1.1.2.2.2.2.2 + 1))))), ((win ((win ((win (List.replicate 0 ((0 : Int), (0 : Int))) 0 0) ++ (win z1.2.1 0 ((Int.toNat z1.1.2.2.1) - 0))) 0 (0 + (List.length (win z1.2.1 0 ((Int.toNat z1.1.2.2.1) - 0))))) ++ (win (List.set (List.replicate 1 ((0 : Int), (0 : Int))) 0 (z1.2.2.1, z1.2.2.2)) 0 1)) 0 ((0 + (List.length (win z1.2.1 0 ((Int.toNat z1.1.2.2.1) - 0)))) + (List.length (win (List.set (List.replicate 1 ((0 : Int), (0 : Int))) 0 (z1.2.2.1, z1.2.2.2)) 0 1)))) ++ (win z1.2.1 (0 + (Int.toNat z1.1.2.2.1)) (z1.2.1.length - (Int.toNat z1.1.2.2.1))))))) .fail) .fail) .fail) .fail) .fail) .fail) .fail) .fail) .fail) .fail) .fail) .fail) .fail) .fail)))) .fail) (qz out (.ret (Sum.inr ((), out)))))
def zagh (v) := zav (fun v => (zcn v).run) v
def z5d : List FO := [⟨[(.one (.rw 0 0))], [(.row 0 (.pair (.int .i64) (.int .i64)))]⟩]
def zagi : List (Int × Int) → T (Unit × List (Int × Int)) := fun ds =>(.test true (.sub (zagh (((), (ds, ((ds.length : Int), (0 : Int)))), ([] : List (Int × Int)))) fun z0 =>(qz z0.2 (.ret ((), z0.2)))) .fail)
def F108 (v) := (zagi v).run
def z8c : TEnv := (E0.add1 zas1 z5t z5s F121)
theorem zxc : (z8c).OK := (E0ok.add1 za65)
def zqj : Nat → Option zal := fun id => if id = 6 then some (LSh.told zmv 0 (zco)) else if id = 3 then some (LSh.told zmu 0 (zcn)) else none
theorem zadg : zan Tryz.prog 0 (zad (zac znz) [0, 0]) (LSh.told zmv 0 (zco)) :=
 zak (E := z8c) (zxc) (told := zqj) (l := zmv) (step := zco) (zab (ls := []) (by kernel_rfl) trivial) (by kernel_rfl) (fun v => by kernel_rfl)
theorem zadf : zan Tryz.prog 0 (zad (zac znz) [0]) (LSh.told zmu 0 (zcn)) :=
 zak (E := z8c) (zxc) (told := zqj) (l := zmu) (step := zcn) (zab (ls := [zad (zac znz) [0, 0]]) (by kernel_rfl) ⟨.inr ⟨_, by kernel_rfl, zadg⟩, trivial⟩) (by kernel_rfl) (fun v => by kernel_rfl)
theorem za6q : FOK Tryz.prog zasu z5e z5d F108 :=
 zao (E := z8c) (zxc) (told := zqj) (fl := []) (c := zac znz) (s := z5e) (l := z5d) (tree := zagi) zaqu (by kernel_rfl) (by kernel_rfl) (by kernel_rfl) (zab (ls := [zad (zac znz) [0]]) (by kernel_rfl) ⟨.inr ⟨_, by kernel_rfl, zadf⟩, trivial⟩) (fun v => by kernel_rfl)
theorem zadh (d : Dg) (out : List Dg) (t8 : List Dg) (a b : Int) (hl : out.length < 1000000) :
  ∃ k : Nat, k ≤ out.length ∧ out.take k ++ d :: out.drop k = insD d out ∧ zqi (((), ((), ((0 : Int), (t8, (a, b))))), (out, d)) = some (((), ((), ((k : Int), (t8, (a, b))))), (out, d)) := by
 obtain ⟨k, h1, h2, h3, h4, h5⟩ := zka d out
 refine ⟨k, h1, by unfold insD; rw [h2, h3], ?_⟩
 obtain ⟨d0, d1⟩ := d
 have key : ∀ n j, j + n = k → zqi (((), ((), ((j : Int), (t8, (a, b))))), (out, (d0, d1))) = some (((), ((), ((k : Int), (t8, (a, b))))), (out, (d0, d1))) := by
  intro n
  induction n with
  | zero =>
   intro j hj
   have : j = k := by omega
   subst this
   simp only [zqi]
   refine zag ?_
   by_cases hk : j < out.length
   ·have c0 : (j : Int) < (out.length : Int) := by omega
    have c1 : (0 : Int) ≤ (j : Int) ∧ (j : Int) < (out.length : Int) := by omega
    simp only [zco, T.run, c0, c1, decide_true, if_true, qe, Nat.zero_add, zdh hk, qa, zahn, h5 hk, and_self]
    simp
   ·have c0 : ¬ ((j : Int) < (out.length : Int)) := by omega
    simp only [zco, T.run, c0, decide_false]
    simp
  | succ n ih =>
   intro j hj
   have hk : j < out.length := by omega
   have ih := ih (j + 1) (by omega)
   simp only [zqi] at ih ⊢
   rw [← ih]
   refine zah ?_
   have c0 : (j : Int) < (out.length : Int) := by omega
   have c1 : (0 : Int) ≤ (j : Int) ∧ (j : Int) < (out.length : Int) := by omega
   have w1 : w64 ((j : Int) + 1) = ((j + 1 : Nat) : Int) := by rw [zae (by omega) (by omega)]; omega
   simp only [zco, T.run, c0, c1, decide_true, if_true, qe, Nat.zero_add, zdh hk, qa, zahn, h4 j (by omega), and_self, w1]
 simpa using key k 0 (by omega)
theorem ztg (d : Dg) (l : List Dg) : (insD d l).length = l.length + 1 := by simpa using (zth d l).length_eq
theorem za6p (l : List Dg) (hl : l.length < 100000) : F108 l = some ((), zha l) := by
 have h := zbm (step := fun v => (zcn v).run) (xs := l) (fun k (s : List Dg) => s.length = k) (fun k s => (((), (l, ((l.length : Int), (k : Int)))), s)) (fun out d => insD d out) (fun s => ((), s))
  (fun k s d hk hd => by
   have hlt := zai hd
   have c0 : (k : Int) < (l.length : Int) := by omega
   have c1 : (0 : Int) ≤ (k : Int) ∧ (k : Int) < (l.length : Int) := by omega
   have w1 : w64 ((k : Int) + 1) = ((k + 1 : Nat) : Int) := by rw [zae (by omega) (by omega)]; omega
   obtain ⟨m, m1, m2, m3⟩ := zadh d s l (l.length : Int) (k : Int) (by omega)
   refine ⟨?_, by rw [ztg, hk]⟩
   have t1 : win s 0 (m - 0) = s.take m := zfm _ _
   have t2 : win (s.take m) 0 m = s.take m := by rw [zfm, List.take_take, Nat.min_self]
   have t3 : win s m (s.length - m) = s.drop m := by unfold win; rw [List.take_of_length_le (by simp)]
   have l1 : (s.take m).length = m := by simp; omega
   have l2 : (s.drop m).length = s.length - m := by simp
   have t4 : win ([] : List Dg) 0 0 = [] := rfl
   have l3 : (s.take m ++ [d]).length = m + 1 := by simp; omega
   have t5 : win (s.take m ++ [d]) 0 (m + 1) = s.take m ++ [d] := by rw [← l3]; exact zap _
   have e : s.take m ++ [d] ++ s.drop m = insD d s := by rw [← m2]; simp
   simp only [zcn, T.run, c0, c1, decide_true, if_true, qe, qa, and_self, hd, m3, zc9, List.replicate_zero, t1, t4, qw, l1, Nat.zero_add, t2, t3, l2, qk, qq, t5, e]
   have n1 : (0 : Int) ≤ (m : Int) := by omega
   have n2 : m - 0 ≤ s.length := by omega
   have n3 : m ≤ s.length := m1
   have n4 : 2 * ((m + 1 + (s.length - m)) * 17) ≤ 140737488355328 := by omega
   have n5 : 2 * (m * 17) ≤ 140737488355328 := by omega
   have n6 : 2 * ((m + 1) * 17) ≤ 140737488355328 := by omega
   have n7 : m + (s.length - m) ≤ s.length := by omega
   have n8 : m + 1 + (s.length - m) = s.length + 1 := by omega
   simp [n1, n2, n3, n4, n5, n6, n7, n8, w1, ztg, l1]
   omega)
  (fun s hs => by simp [zcn, T.run])
  [] rfl
 simp only [ka] at h
 simp only [F108, zagi, T.run, zagh, h.1, qa]
 simp [zha]
def zxz : FSh := ⟨[(.one (.sl (.int .i64) false false))], []⟩
def znj : LSh := ⟨(fun ex => match ex with | .norm => (nz [4, 5, 26, 27]) | .exit i => if i = 0 then (nz [4, 5]) else [] | .ret => (nz [2, 3])), [(4, qo4), (5, qo9), (26, qo1), (27, qo1)], [qr1, qr1], [⟨(.exit 0), [(4, qo4), (5, qo9)], [qr1, qr1]⟩], [], []⟩
def zea : ((Unit × Unit × Int × Int) × (List Int × List Int)) → T (((Unit × Unit × Int × Int) × (List Int × List Int)) ⊕ ((Unit × Unit) × (List Int × List Int))) := fun (((), (), t26, t27), (left, corners)) =>(.test (decide (t27 < t26)) (.test (decide (1 ≤ (List.length (List.set (List.replicate 1 (0 : Int)) 0 t27)))) (.test (decide ((0 + corners.length) ≤ corners.length)) (.test (decide ((2 * ((corners.length + (List.length (win (List.set (List.replicate 1 (0 : Int)) 0 t27) 0 1))) * 9)) ≤ 140737488355328)) (qz left (.test (decide ((0 = 0) ∧ ((corners.length + (List.length (win (List.set (List.replicate 1 (0 : Int)) 0 t27) 0 1))) = (List.length ((win corners 0 corners.length) ++ (win (List.set (List.replicate 1 (0 : Int)) 0 t27) 0 1)))))) (.ret (Sum.inl (((), ((), (t26, (w64 (t27 + 1))))), (left, ((win corners 0 corners.length) ++ (win (List.set (List.replicate 1 (0 : Int)) 0 t27) 0 1)))))) .fail)) .fail) .fail) .fail) (qz left (qz corners (.ret (Sum.inr (((), ()), (left, corners)))))))
def zq0 (v) := zav (fun v => (zea v).run) v
def zkk : LSh := ⟨(fun ex => match ex with | .norm => (nz [4, 5, 7, 8, 38, 39, 40]) | .exit i => if i = 4 then (nz [4, 5, 7, 8]) else if i = 3 then (nz [4, 5, 7]) else if i = 2 then (nz [4, 7]) else [] | .ret => (nz [2, 3])), [(4, qo4), (5, qo9), (7, qo8), (8, qo1), (38, qo4), (39, qo1), (40, qo1)], [qr1, qr1, (.row 0 (.pair (.int .i64) (.int .i64)))], [⟨(.exit 4), [(4, qo4), (5, qo9), (7, qo8), (8, qo1)], [qr1, qr1, (.row 0 (.pair (.int .i64) (.int .i64)))]⟩], [], []⟩
def zbt : ((Unit × Unit × Unit × Int × Unit × Int × Int) × (List Int × List Int × List (Int × Int))) → T (((Unit × Unit × Unit × Int × Unit × Int × Int) × (List Int × List Int × List (Int × Int))) ⊕ ((Unit × Unit × Unit × Int) × (List Int × List Int × List (Int × Int)))) := fun (((), (), (), at', (), t39, t40), (left, corners, out)) =>(.test (decide (t40 < t39)) (.test (decide ((0 ≤ t40) ∧ (t40 < (left.length : Int)))) (.sub (left[(0 + (Int.toNat t40))]?) fun z0 =>(.test (z0 == 1) (.test (decide (at' < 0)) (qz left (qz corners (qz out (qz left (.ret (Sum.inl (((), ((), ((), (t40, ((), (t39, (w64 (t40 + 1)))))))), (left, (corners, out))))))))) (qz left (qz corners (qz out (qz left (.ret (Sum.inl (((), ((), ((), (at', ((), (t39, (w64 (t40 + 1)))))))), (left, (corners, out)))))))))) (qz left (qz corners (qz out (qz left (.ret (Sum.inl (((), ((), ((), (at', ((), (t39, (w64 (t40 + 1)))))))), (left, (corners, out))))))))))) .fail) (qz left (qz corners (qz out (.ret (Sum.inr (((), ((), ((), at'))), (left, (corners, out)))))))))
def zlg (v) := zav (fun v => (zbt v).run) v
def zkj : LSh := ⟨(fun ex => match ex with | .norm => (nz [4, 5, 7]) | .exit i => if i = 2 then (nz [4, 7]) else [] | .ret => (nz [2, 3])), [(4, qo4), (5, qo9), (7, qo8)], [qr1, qr1, (.row 0 (.pair (.int .i64) (.int .i64)))], [⟨.ret, [(2, qo4), (3, qo2)], [(.row 0 (.pair (.int .i64) (.int .i64)))]⟩, ⟨(.exit 2), [(4, qo4), (7, qo9)], [qr1, (.row 0 (.pair (.int .i64) (.int .i64)))]⟩], [], []⟩
def zbs : ((Unit × Unit × Unit) × (List Int × List Int × List (Int × Int))) → T (((Unit × Unit × Unit) × (List Int × List Int × List (Int × Int))) ⊕ (((Unit × Bool) × List (Int × Int)) ⊕ ((Unit × Unit) × (List Int × List (Int × Int))))) := fun (((), (), ()), (left, corners, out)) =>(.test (decide ((left.length : Int) > 3)) (qz left (qz corners (qz out (qz left (.sub (zlg (((), ((), ((), ((-1), ((), ((left.length : Int), (0 : Int))))))), (left, (corners, out)))) fun z0 =>(.test (decide (z0.1.2.2.2 < 0)) (.test true (.ret (Sum.inr (Sum.inl (((), false), ([] : List (Int × Int)))))) .fail) (.test (decide ((z0.2.1.length : Int) ≠ 0)) (.test (decide ((z0.2.1.length : Int) ≠ 0)) (.test (decide ((0 ≤ (Int.tmod (w64 ((w64 (z0.1.2.2.2 + (z0.2.1.length : Int))) - 1)) (z0.2.1.length : Int))) ∧ ((Int.tmod (w64 ((w64 (z0.1.2.2.2 + (z0.2.1.length : Int))) - 1)) (z0.2.1.length : Int)) < (z0.2.1.length : Int)))) (.sub (z0.2.1[(0 + (Int.toNat (Int.tmod (w64 ((w64 (z0.1.2.2.2 + (z0.2.1.length : Int))) - 1)) (z0.2.1.length : Int))))]?) fun z1 =>(.test (decide ((0 ≤ (Int.tmod (w64 ((w64 (z0.1.2.2.2 + (z0.2.1.length : Int))) - 1)) (z0.2.1.length : Int))) ∧ ((Int.tmod (w64 ((w64 (z0.1.2.2.2 + (z0.2.1.length : Int))) - 1)) (z0.2.1.length : Int)) < (z0.2.1.length : Int)))) (.sub (z0.2.1[(0 + (Int.toNat (Int.tmod (w64 ((w64 (z0.1.2.2.2 + (z0.2.1.length : Int))) - 1)) (z0.2.1.length : Int))))]?) fun z2 =>(.test (decide ((0 ≤ (Int.tmod (w64 (z0.1.2.2.2 + 1)) (z0.2.1.length : Int))) ∧ ((Int.tmod (w64 (z0.1.2.2.2 + 1)) (z0.2.1.length : Int)) < (z0.2.1.length : Int)))) (.sub ((List.set z0.2.1 (0 + (Int.toNat (Int.tmod (w64 ((w64 (z0.1.2.2.2 + (z0.2.1.length : Int))) - 1)) (z0.2.1.length : Int)))) (w64 (z1 - 1)))[(0 + (Int.toNat (Int.tmod (w64 (z0.1.2.2.2 + 1)) (z0.2.1.length : Int))))]?) fun z3 =>(.test (decide ((0 ≤ (Int.tmod (w64 (z0.1.2.2.2 + 1)) (z0.2.1.length : Int))) ∧ ((Int.tmod (w64 (z0.1.2.2.2 + 1)) (z0.2.1.length : Int)) < (z0.2.1.length : Int)))) (.sub ((List.set z0.2.1 (0 + (Int.toNat (Int.tmod (w64 ((w64 (z0.1.2.2.2 + (z0.2.1.length : Int))) - 1)) (z0.2.1.length : Int)))) (w64 (z1 - 1)))[(0 + (Int.toNat (Int.tmod (w64 (z0.1.2.2.2 + 1)) (z0.2.1.length : Int))))]?) fun z4 =>(.test (decide ((0 ≤ (Int.tmod (w64 ((w64 (z0.1.2.2.2 + (z0.2.1.length : Int))) - 1)) (z0.2.1.length : Int))) ∧ ((Int.tmod (w64 ((w64 (z0.1.2.2.2 + (z0.2.1.length : Int))) - 1)) (z0.2.1.length : Int)) < (z0.2.1.length : Int)))) (.sub ((List.set (List.set z0.2.1 (0 + (Int.toNat (Int.tmod (w64 ((w64 (z0.1.2.2.2 + (z0.2.1.length : Int))) - 1)) (z0.2.1.length : Int)))) (w64 (z1 - 1))) (0 + (Int.toNat (Int.tmod (w64 (z0.1.2.2.2 + 1)) (z0.2.1.length : Int)))) (w64 (z3 - 1)))[(0 + (Int.toNat (Int.tmod (w64 ((w64 (z0.1.2.2.2 + (z0.2.1.length : Int))) - 1)) (z0.2.1.length : Int))))]?) fun z5 =>(.test (decide (z5 < 1)) (.test true (.ret (Sum.inr (Sum.inl (((), false), ([] : List (Int × Int)))))) .fail) (.test (decide ((0 ≤ (Int.tmod (w64 (z0.1.2.2.2 + 1)) (z0.2.1.length : Int))) ∧ ((Int.tmod (w64 (z0.1.2.2.2 + 1)) (z0.2.1.length : Int)) < (z0.2.1.length : Int)))) (.sub ((List.set (List.set z0.2.1 (0 + (Int.toNat (Int.tmod (w64 ((w64 (z0.1.2.2.2 + (z0.2.1.length : Int))) - 1)) (z0.2.1.length : Int)))) (w64 (z1 - 1))) (0 + (Int.toNat (Int.tmod (w64 (z0.1.2.2.2 + 1)) (z0.2.1.length : Int)))) (w64 (z3 - 1)))[(0 + (Int.toNat (Int.tmod (w64 (z0.1.2.2.2 + 1)) (z0.2.1.length : Int))))]?) fun z6 =>(.test (decide (z6 < 1)) (.test true (.ret (Sum.inr (Sum.inl (((), false), ([] : List (Int × Int)))))) .fail) (.test (decide ((0 ≤ (Int.tmod (w64 ((w64 (z0.1.2.2.2 + (z0.2.1.length : Int))) - 1)) (z0.2.1.length : Int))) ∧ ((Int.tmod (w64 ((w64 (z0.1.2.2.2 + (z0.2.1.length : Int))) - 1)) (z0.2.1.length : Int)) < (z0.2.2.1.length : Int)))) (.sub (z0.2.2.1[(0 + (Int.toNat (Int.tmod (w64 ((w64 (z0.1.2.2.2 + (z0.2.1.length : Int))) - 1)) (z0.2.1.length : Int))))]?) fun z7 =>(.test (decide ((0 ≤ (Int.tmod (w64 (z0.1.2.2.2 + 1)) (z0.2.1.length : Int))) ∧ ((Int.tmod (w64 (z0.1.2.2.2 + 1)) (z0.2.1.length : Int)) < (z0.2.2.1.length : Int)))) (.sub (z0.2.2.1[(0 + (Int.toNat (Int.tmod (w64 (z0.1.2.2.2 + 1)) (z0.2.1.length : Int))))]?) fun z8 =>(.sub (F113 (z7, z8)) fun z9 =>(.test (decide ((0 ≤ (Int.tmod (w64 ((w64 (z0.1.2.2.2 + (z0.2.1.length : Int))) - 1)) (z0.2.1.length : Int))) ∧ ((Int.tmod (w64 ((w64 (z0.1.2.2.2 + (z0.2.1.length : Int))) - 1)) (z0.2.1.length : Int)) < (z0.2.2.1.length : Int)))) (.sub (z0.2.2.1[(0 + (Int.toNat (Int.tmod (w64 ((w64 (z0.1.2.2.2 + (z0.2.1.length : Int))) - 1)) (z0.2.1.length : Int))))]?) fun z10 =>(.test (decide ((0 ≤ (Int.tmod (w64 (z0.1.2.2.2 + 1)) (z0.2.1.length : Int))) ∧ ((Int.tmod (w64 (z0.1.2.2.2 + 1)) (z0.2.1.length : Int)) < (z0.2.2.1.length : Int)))) (.sub (z0.2.2.1[(0 + (Int.toNat (Int.tmod (w64 (z0.1.2.2.2 + 1)) (z0.2.1.length : Int))))]?) fun z11 =>(.sub (F120 (z10, z11)) fun z12 =>(.test (decide (1 ≤ (List.length (List.set (List.replicate 1 ((0 : Int), (0 : Int))) 0 (z9, z12))))) (.test (decide ((0 + z0.2.2.2.length) ≤ z0.2.2.2.length)) (.test (decide ((2 * ((z0.2.2.2.length + (List.length (win (List.set (List.replicate 1 ((0 : Int), (0 : Int))) 0 (z9, z12)) 0 1))) * 17)) ≤ 140737488355328)) (.test (decide (0 ≤ z0.1.2.2.2)) (.test (decide ((0 ≤ (Int.toNat z0.1.2.2.2)) ∧ ((Int.toNat z0.1.2.2.2) ≤ z0.2.1.length))) (.test (decide ((0 + ((Int.toNat z0.1.2.2.2) - 0)) ≤ (List.length (List.set (List.set z0.2.1 (0 + (Int.toNat (Int.tmod (w64 ((w64 (z0.1.2.2.2 + (z0.2.1.length : Int))) - 1)) (z0.2.1.length : Int)))) (w64 (z1 - 1))) (0 + (Int.toNat (Int.tmod (w64 (z0.1.2.2.2 + 1)) (z0.2.1.length : Int)))) (w64 (z3 - 1)))))) (.sub (F133 (win (List.set (List.set z0.2.1 (0 + (Int.toNat (Int.tmod (w64 ((w64 (z0.1.2.2.2 + (z0.2.1.length : Int))) - 1)) (z0.2.1.length : Int)))) (w64 (z1 - 1))) (0 + (Int.toNat (Int.tmod (w64 (z0.1.2.2.2 + 1)) (z0.2.1.length : Int)))) (w64 (z3 - 1))) 0 ((Int.toNat z0.1.2.2.2) - 0))) fun z13 =>(.test (decide (0 ≤ (w64 (z0.1.2.2.2 + 1)))) (.test (decide (((Int.toNat (w64 (z0.1.2.2.2 + 1))) ≤ z0.2.1.length) ∧ (z0.2.1.length ≤ z0.2.1.length))) (.test (decide (((0 + (Int.toNat (w64 (z0.1.2.2.2 + 1)))) + (z0.2.1.length - (Int.toNat (w64 (z0.1.2.2.2 + 1))))) ≤ (List.length (List.set (List.set z0.2.1 (0 + (Int.toNat (Int.tmod (w64 ((w64 (z0.1.2.2.2 + (z0.2.1.length : Int))) - 1)) (z0.2.1.length : Int)))) (w64 (z1 - 1))) (0 + (Int.toNat (Int.tmod (w64 (z0.1.2.2.2 + 1)) (z0.2.1.length : Int)))) (w64 (z3 - 1)))))) (.test (decide ((0 + z13.2.length) ≤ z13.2.length)) (.test (decide ((2 * ((z13.2.length + (List.length (win (List.set (List.set z0.2.1 (0 + (Int.toNat (Int.tmod (w64 ((w64 (z0.1.2.2.2 + (z0.2.1.length : Int))) - 1)) (z0.2.1.length : Int)))) (w64 (z1 - 1))) (0 + (Int.toNat (Int.tmod (w64 (z0.1.2.2.2 + 1)) (z0.2.1.length : Int)))) (w64 (z3 - 1))) (0 + (Int.toNat (w64 (z0.1.2.2.2 + 1)))) (z0.2.1.length - (Int.toNat (w64 (z0.1.2.2.2 + 1))))))) * 9)) ≤ 140737488355328)) (.test (decide (0 ≤ z0.1.2.2.2)) (.test (decide ((0 ≤ (Int.toNat z0.1.2.2.2)) ∧ ((Int.toNat z0.1.2.2.2) ≤ z0.2.2.1.length))) (.test (decide ((0 + ((Int.toNat z0.1.2.2.2) - 0)) ≤ z0.2.2.1.length)) (.sub (F133 (win z0.2.2.1 0 ((Int.toNat z0.1.2.2.2) - 0))) fun z14 =>(.test (decide (0 ≤ (w64 (z0.1.2.2.2 + 1)))) (.test (decide (((Int.toNat (w64 (z0.1.2.2.2 + 1))) ≤ z0.2.2.1.length) ∧ (z0.2.2.1.length ≤ z0.2.2.1.length))) (.test (decide (((0 + (Int.toNat (w64 (z0.1.2.2.2 + 1)))) + (z0.2.2.1.length - (Int.toNat (w64 (z0.1.2.2.2 + 1))))) ≤ z0.2.2.1.length)) (.test (decide ((0 + z14.2.length) ≤ z14.2.length)) (.test (decide ((2 * ((z14.2.length + (List.length (win z0.2.2.1 (0 + (Int.toNat (w64 (z0.1.2.2.2 + 1)))) (z0.2.2.1.length - (Int.toNat (w64 (z0.1.2.2.2 + 1))))))) * 9)) ≤ 140737488355328)) (.test (decide ((0 = 0) ∧ ((z13.2.length + (List.length (win (List.set (List.set z0.2.1 (0 + (Int.toNat (Int.tmod (w64 ((w64 (z0.1.2.2.2 + (z0.2.1.length : Int))) - 1)) (z0.2.1.length : Int)))) (w64 (z1 - 1))) (0 + (Int.toNat (Int.tmod (w64 (z0.1.2.2.2 + 1)) (z0.2.1.length : Int)))) (w64 (z3 - 1))) (0 + (Int.toNat (w64 (z0.1.2.2.2 + 1)))) (z0.2.1.length - (Int.toNat (w64 (z0.1.2.2.2 + 1))))))) = (List.length ((win z13.2 0 z13.2.length) ++ (win (List.set (List.set z0.2.1 (0 + (Int.toNat (Int.tmod (w64 ((w64 (z0.1.2.2.2 + (z0.2.1.length : Int))) - 1)) (z0.2.1.length : Int)))) (w64 (z1 - 1))) (0 + (Int.toNat (Int.tmod (w64 (z0.1.2.2.2 + 1)) (z0.2.1.length : Int)))) (w64 (z3 - 1))) (0 + (Int.toNat (w64 (z0.1.2.2.2 + 1)))) (z0.2.1.length - (Int.toNat (w64 (z0.1.2.2.2 + 1)))))))))) (.test (decide ((0 = 0) ∧ ((z14.2.length + (List.length (win z0.2.2.1 (0 + (Int.toNat (w64 (z0.1.2.2.2 + 1)))) (z0.2.2.1.length - (Int.toNat (w64 (z0.1.2.2.2 + 1))))))) = (List.length ((win z14.2 0 z14.2.length) ++ (win z0.2.2.1 (0 + (Int.toNat (w64 (z0.1.2.2.2 + 1)))) (z0.2.2.1.length - (Int.toNat (w64 (z0.1.2.2.2 + 1)))))))))) (.test (decide ((0 = 0) ∧ ((z0.2.2.2.length + (List.length (win (List.set (List.replicate 1 ((0 : Int), (0 : Int))) 0 (z9, z12)) 0 1))) = (List.length ((win z0.2.2.2 0 z0.2.2.2.length) ++ (win (List.set (List.replicate 1 ((0 : Int), (0 : Int))) 0 (z9, z12)) 0 1)))))) (.ret (Sum.inl (((), ((), ())), (((win z13.2 0 z13.2.length) ++ (win (List.set (List.set z0.2.1 (0 + (Int.toNat (Int.tmod (w64 ((w64 (z0.1.2.2.2 + (z0.2.1.length : Int))) - 1)) (z0.2.1.length : Int)))) (w64 (z1 - 1))) (0 + (Int.toNat (Int.tmod (w64 (z0.1.2.2.2 + 1)) (z0.2.1.length : Int)))) (w64 (z3 - 1))) (0 + (Int.toNat (w64 (z0.1.2.2.2 + 1)))) (z0.2.1.length - (Int.toNat (w64 (z0.1.2.2.2 + 1)))))), (((win z14.2 0 z14.2.length) ++ (win z0.2.2.1 (0 + (Int.toNat (w64 (z0.1.2.2.2 + 1)))) (z0.2.2.1.length - (Int.toNat (w64 (z0.1.2.2.2 + 1)))))), ((win z0.2.2.2 0 z0.2.2.2.length) ++ (win (List.set (List.replicate 1 ((0 : Int), (0 : Int))) 0 (z9, z12)) 0 1))))))) .fail) .fail) .fail) .fail) .fail) .fail) .fail) .fail)) .fail) .fail) .fail) .fail) .fail) .fail) .fail) .fail)) .fail) .fail) .fail) .fail) .fail) .fail))) .fail)) .fail))) .fail)) .fail))) .fail))) .fail)) .fail)) .fail)) .fail)) .fail) .fail) .fail))))))) (qz left (qz out (.ret (Sum.inr (Sum.inr (((), ()), (left, out))))))))
def zjd (v) := zav (fun v => (zbs v).run) v
def zxy : List FO := [⟨[(.one (.rw 0 0)), (.one .sb)], [(.row 0 (.pair (.int .i64) (.int .i64)))]⟩]
def zai9 : List Int → T ((Unit × Bool) × List (Int × Int)) := fun quiddity =>(.sub (F148 (quiddity.length : Int)) fun z0 =>(.test (! z0) (.test true (.ret (((), false), ([] : List (Int × Int)))) .fail) (.sub (F132 (quiddity, ((1 : Int), (12 : Int)))) fun z1 =>(.test (! z1) (.test true (.ret (((), false), ([] : List (Int × Int)))) .fail) (.sub (F133 quiddity) fun z2 =>(qz z2.2 (.test (decide ((0 = 0) ∧ (0 = (List.length (List.replicate 0 (0 : Int)))))) (.sub (zq0 (((), ((), ((z2.2.length : Int), (0 : Int)))), (z2.2, (List.replicate 0 (0 : Int))))) fun z3 =>(qz z3.2.1 (qz z3.2.2 (.test (decide ((0 = 0) ∧ (0 = (List.length ([] : List (Int × Int)))))) (.sub (zjd (((), ((), ())), (z3.2.1, (z3.2.2, ([] : List (Int × Int)))))) fun z4 =>(.test (Sum.isLeft z4) (.sub (Sum.getLeft? z4) fun z5 =>(qz z5.2 (.ret (((), z5.1.2), z5.2)))) (.sub (Sum.getRight? z4) fun z6 =>(.test (decide ((0 + z6.2.2.length) ≤ z6.2.2.length)) (.sub (F108 (win z6.2.2 0 z6.2.2.length)) fun z7 =>(.test (decide (((0 : Int) ≤ (0 : Int)) ∧ (0 < (z6.2.1.length : Int)))) (.sub (z6.2.1[0]?) fun z8 =>(.test (z8 == 1) (.test (decide (((0 : Int) ≤ (1 : Int)) ∧ (1 < (z6.2.1.length : Int)))) (.sub (z6.2.1[1]?) fun z9 =>(.test (z9 == 1) (.test (decide (((0 : Int) ≤ (2 : Int)) ∧ (2 < (z6.2.1.length : Int)))) (.sub (z6.2.1[2]?) fun z10 =>(qz z7.2 (.ret (((), (z10 == 1)), z7.2)))) .fail) (qz z7.2 (.ret (((), false), z7.2))))) .fail) (qz z7.2 (.ret (((), false), z7.2))))) .fail)) .fail)))) .fail)))) .fail)))))))
def F150 (v) := (zai9 v).run
def z0u : TEnv := ((((((E0.add1 zab6 zxx zxw F148).add1 zab5 zxs zxr F132).add1 zpc zic zib F133).add1 zasx z5k z5j F113).add1 zas0 z5r z5q F120).add1 zasu z5e z5d F108)
theorem zpw : (z0u).OK := ((((((E0ok.add1 zai5).add1 zaii).add1 zna).add1 za6w).add1 za64).add1 za6q)
def zlh : Nat → Option zal := fun id => if id = 5 then some (LSh.told znj 0 (zea)) else if id = 13 then some (LSh.told zkk 0 (zbt)) else if id = 10 then some (LSh.told zkj 0 (zbs)) else none
theorem zad0 : zan Tryz.prog 0 (zad (zac ziu) [0]) (LSh.told znj 0 (zea)) :=
 zak (E := z0u) (zpw) (told := zlh) (l := znj) (step := zea) (zab (ls := []) (by kernel_rfl) trivial) (by kernel_rfl) (fun v => by kernel_rfl)
theorem z6j : zan Tryz.prog 0 (zad (zac ziu) [1, 0]) (LSh.told zkk 0 (zbt)) :=
 zak (E := z0u) (zpw) (told := zlh) (l := zkk) (step := zbt) (zab (ls := []) (by kernel_rfl) trivial) (by kernel_rfl) (fun v => by kernel_rfl)
theorem z6i : zan Tryz.prog 0 (zad (zac ziu) [1]) (LSh.told zkj 0 (zbs)) :=
 zak (E := z0u) (zpw) (told := zlh) (l := zkj) (step := zbs) (zab (ls := [zad (zac ziu) [1, 0]]) (by kernel_rfl) ⟨.inr ⟨_, by kernel_rfl, z6j⟩, trivial⟩) (by kernel_rfl) (fun v => by kernel_rfl)
theorem zai8 : FOK Tryz.prog zab7 zxz zxy F150 :=
 zao (E := z0u) (zpw) (told := zlh) (fl := []) (c := zac ziu) (s := zxz) (l := zxy) (tree := zai9) zarp (by kernel_rfl) (by kernel_rfl) (by kernel_rfl) (zab (ls := [zad (zac ziu) [0], zad (zac ziu) [1]]) (by kernel_rfl) ⟨.inr ⟨_, by kernel_rfl, zad0⟩, ⟨.inr ⟨_, by kernel_rfl, z6i⟩, trivial⟩⟩) (fun v => by kernel_rfl)
theorem zad1 (left : List Int) (hl : left.length < 1000000) : zq0 (((), ((), ((left.length : Int), (0 : Int)))), (left, [])) = some (((), ()), (left, zb0 left.length)) := by
 have key : ∀ m k, k + m = left.length → zq0 (((), ((), ((left.length : Int), (k : Int)))), (left, zb0 k)) = some (((), ()), (left, zb0 left.length)) := by
  intro m
  induction m with
  | zero =>
   intro k hk
   have : k = left.length := by omega
   subst this
   simp only [zq0]
   exact zag (by simp [zea, T.run])
  | succ m ih =>
   intro k hk
   have ih := ih (k + 1) (by omega)
   simp only [zq0] at ih ⊢
   rw [← ih]
   refine zah ?_
   have c0 : (k : Int) < (left.length : Int) := by omega
   have w1 : w64 ((k : Int) + 1) = ((k + 1 : Nat) : Int) := by rw [zae (by omega) (by omega)]; omega
   have hw : win (zb0 k) 0 k = zb0 k := by have := zap (zb0 k); rwa [za5] at this
   have c1 : 2 * ((k + 1) * 9) ≤ 140737488355328 := by omega
   have hs : zb0 k ++ [(k : Int)] = zb0 (k + 1) := (zwd k).symm
   simp only [zea, T.run, c0, decide_true, if_true, zc9, za5, hw, w1, qk, qq, c1, hs, Nat.zero_add]
   simp [c1]
 simpa [zb0] using key left.length 0 (by omega)
theorem zvg (left corners : List Int) (out : List Dg) (hl : left.length < 1000000) :
  zlg (((), ((), ((), ((-1), ((), ((left.length : Int), (0 : Int))))))), (left, (corners, out))) = some (((), ((), ((), idxI (fun x => (1 : Int) == x) left))), (left, (corners, out))) := by
 have key : ∀ m k (at' : Int), k + m = left.length → (at' < 0 → at' = -1) → zlg (((), ((), ((), (at', ((), ((left.length : Int), (k : Int))))))), (left, (corners, out))) =
   some (((), ((), ((), if at' < 0 then (match (left.drop k).findIdx? (fun x => (1 : Int) == x) with | some i => ((k + i : Nat) : Int) | none => -1) else at'))), (left, (corners, out))) := by
  intro m
  induction m with
  | zero =>
   intro k at' hk ha
   have : k = left.length := by omega
   subst this
   rw [List.drop_length]
   simp only [zlg]
   refine zag ?_
   by_cases h : at' < 0
   ·have := ha h; subst this; simp [zbt, T.run]
   ·simp [zbt, T.run, h]
  | succ m ih =>
   intro k at' hk ha
   have hlt : k < left.length := by omega
   have g0 := qb hlt
   have c0 : (k : Int) < (left.length : Int) := by omega
   have c1 : (0 : Int) ≤ (k : Int) ∧ (k : Int) < (left.length : Int) := by omega
   have w1 : w64 ((k : Int) + 1) = ((k + 1 : Nat) : Int) := by rw [zae (by omega) (by omega)]; omega
   rw [qm hlt, List.findIdx?_cons]
   have st : (zbt (((), ((), ((), (at', ((), ((left.length : Int), (k : Int))))))), (left, (corners, out)))).run =
     some (.inl (((), ((), ((), ((if (left[k] == 1) = true ∧ at' < 0 then (k : Int) else at'), ((), ((left.length : Int), ((k + 1 : Nat) : Int))))))), (left, (corners, out)))) := by
    simp only [zbt, T.run, c0, c1, decide_true, if_true, and_self, qe, Nat.zero_add, g0, qa, w1]
    cases hb : left[k] == 1 <;> by_cases h : at' < 0 <;> simp [h]
   have ih' := ih (k + 1) (if (left[k] == 1) = true ∧ at' < 0 then (k : Int) else at') (by omega) (by split <;> omega)
   simp only [zlg] at ih' ⊢
   rw [zah st, ih']
   have hsym : ((1 : Int) == left[k]) = (left[k] == 1) := by rw [zsm, zsm]; congr 1; exact propext eq_comm
   rw [hsym]
   cases hb : left[k] == 1 with
   | true =>
    by_cases h : at' < 0
    ·have : ¬ ((k : Int) < 0) := by omega
     simp [h, this]
    ·simp [h]
   | false =>
    by_cases h : at' < 0
    ·simp only [qj, false_and, if_false, h, if_true]
     cases (left.drop (k + 1)).findIdx? (fun x => (1 : Int) == x) with
     | none => rfl
     | some i => simp only [Option.map_some]; rw [show k + 1 + i = k + (i + 1) by omega]
    ·simp [h]
 have := key left.length 0 (-1) (by omega) (fun _ => rfl)
 rw [ka, List.drop_zero] at this
 rw [this]
 simp only [idxI]
 simp
 rfl
theorem zavy (left names : List Int) (out : List Dg) (k i : Nat) (hk : k < 100000) (hl : left.length = k + 4) (hn : names.length = k + 4) (ho : out.length < 100000) (he : ear left = some i) :
  (zbs (((), ((), ())), (left, (names, out)))).run = some (if okC left i then .inl (((), ((), ())), (cutL left i, (names.eraseIdx i, out ++ [cutD names i]))) else .inr (.inl (((), false), []))) := by
 obtain ⟨hi, _⟩ := zf4 he
 obtain ⟨n1, n2, n3, n4, n5, n6⟩ := zgy (by omega : 3 ≤ left.length) hi
 obtain ⟨t1, t2⟩ := zati (by omega : 3 ≤ left.length) (by omega) hi
 have hf := zvg left names out (by omega)
 have hii : idxI (fun x => (1 : Int) == x) left = (i : Int) := by unfold idxI; unfold ear at he; rw [he]
 rw [hii] at hf
 have c0 : (left.length : Int) > 3 := by omega
 have c1 : ¬ ((i : Int) < 0) := by omega
 have c2 : (left.length : Int) ≠ 0 := by omega
 have c3 : (0 : Int) ≤ (nbB left.length i : Int) ∧ (nbB left.length i : Int) < (left.length : Int) := by omega
 have c4 : (0 : Int) ≤ (nbC left.length i : Int) ∧ (nbC left.length i : Int) < (left.length : Int) := by omega
 have c5 : (0 : Int) ≤ (nbB left.length i : Int) ∧ (nbB left.length i : Int) < (names.length : Int) := by omega
 have c6 : (0 : Int) ≤ (nbC left.length i : Int) ∧ (nbC left.length i : Int) < (names.length : Int) := by omega
 have g1 := za8 n1
 have g2 : (left.set (nbB left.length i) (w64 (left.getD (nbB left.length i) 0 - 1)))[nbC left.length i]? = some ((zbg left (nbB left.length i)).getD (nbC left.length i) 0) := za8 (by simpa using n2)
 have g2' : (zbg left (nbB left.length i)).getD (nbC left.length i) 0 = left.getD (nbC left.length i) 0 := by
  unfold zbg
  simp only [qg]
  rw [kh n5]
 have g3 := za8 (l := names) (p := nbB left.length i) (by omega)
 have g4 := za8 (l := names) (p := nbC left.length i) (by omega)
 have w1 : w64 ((i : Int) + 1) = ((i + 1 : Nat) : Int) := by rw [zae (by omega) (by omega)]; omega
 rw [w1] at t2
 have hD' : (min (names.getD (nbB left.length i) 0) (names.getD (nbC left.length i) 0), max (names.getD (nbB left.length i) 0) (names.getD (nbC left.length i) 0)) = cutD names i := by unfold cutD; rw [hl, hn]
 have hmin : ∀ a b, F113 (a, b) = some (min a b) := by
  intro a b
  simp only [F113, zagz, T.run]
  by_cases h : a < b <;> simp [h] <;> omega
 have hmax : ∀ a b, F120 (a, b) = some (max a b) := by
  intro a b
  simp only [F120, zahl, T.run]
  by_cases h : a > b <;> simp [h] <;> omega
 have c7 : 2 * ((out.length + 1) * 17) ≤ 140737488355328 := by omega
 have l1 : (zbg (zbg left (nbB left.length i)) (nbC left.length i)).length = left.length := by rw [zbu, zbu]
 have e1 : left.set (nbB left.length i) (w64 (left.getD (nbB left.length i) 0 - 1)) = zbg left (nbB left.length i) := rfl
 have e2 : (zbg left (nbB left.length i)).set (nbC left.length i) (w64 (left.getD (nbC left.length i) 0 - 1)) = zbg (zbg left (nbB left.length i)) (nbC left.length i) := by unfold zbg; rw [← zbg, g2']
 have g5 : (zbg (zbg left (nbB left.length i)) (nbC left.length i))[nbB left.length i]? = some (w64 (left.getD (nbB left.length i) 0 - 1)) := by
  conv => lhs; unfold zbg
  rw [kh (Ne.symm n5), List.getElem?_set_self n1]
 have g6 : (zbg (zbg left (nbB left.length i)) (nbC left.length i))[nbC left.length i]? = some (w64 (left.getD (nbC left.length i) 0 - 1)) := by
  rw [← e2, List.getElem?_set_self (by rw [zbu]; exact n2)]
 rw [e1, g2'] at g2
 have htl : ((zbg (zbg left (nbB left.length i)) (nbC left.length i)).take i).length = i := by rw [kp, l1]; omega
 have htn : (names.take i).length = i := by rw [kp]; omega
 have own1 := zia ((zbg (zbg left (nbB left.length i)) (nbC left.length i)).take i) (by rw [htl]; omega)
 have own2 := zia (names.take i) (by rw [htn]; omega)
 have d1 : win (zbg (zbg left (nbB left.length i)) (nbC left.length i)) (i + 1) (left.length - (i + 1)) = (zbg (zbg left (nbB left.length i)) (nbC left.length i)).drop (i + 1) := by
  unfold win; rw [List.take_of_length_le (by rw [kb, l1]; omega)]
 have d2 : win names (i + 1) (names.length - (i + 1)) = names.drop (i + 1) := by
  unfold win; rw [List.take_of_length_le (by rw [kb]; omega)]
 have x1 : (zbg (zbg left (nbB left.length i)) (nbC left.length i)).take i ++ (zbg (zbg left (nbB left.length i)) (nbC left.length i)).drop (i + 1) = cutL left i := zet _ _
 have x2 : names.take i ++ names.drop (i + 1) = names.eraseIdx i := zet _ _
 have f1 : (0 : Int) ≤ (i : Int) := by omega
 have f2 : 0 ≤ i ∧ i ≤ left.length := by omega
 have f3 : i ≤ left.length := by omega
 have f4 : (0 : Int) ≤ ((i + 1 : Nat) : Int) := by omega
 have f5 : i + 1 ≤ left.length ∧ left.length ≤ left.length := by omega
 have f6 : i + 1 + (left.length - (i + 1)) ≤ left.length := by omega
 have f7 : 2 * ((i + (left.length - (i + 1))) * 9) ≤ 140737488355328 := by omega
 have f8 : 0 ≤ i ∧ i ≤ names.length := by omega
 have f9 : i ≤ names.length := by omega
 have f10 : i + 1 ≤ names.length ∧ names.length ≤ names.length := by omega
 have f11 : i + 1 + (names.length - (i + 1)) ≤ names.length := by omega
 have f12 : 2 * ((i + (names.length - (i + 1))) * 9) ≤ 140737488355328 := by omega
 have f13 : i + (left.length - (i + 1)) = (cutL left i).length := by rw [za7 hi]; omega
 have f14 : i + (names.length - (i + 1)) = (names.eraseIdx i).length := by rw [List.length_eraseIdx, if_pos (by omega)]; omega
 have x1' := x1
 have x2' := x2
 simp only [zbs, T.run, c0, decide_true, if_true, Nat.zero_add, qi, hf, qa, c1, decide_false, qj, if_false, c2, ne_eq, not_false_eq_true, t1, t2, c3, c4, c5, c6, and_self, qe, g1, e1, g2, e2, g3, g4, g5, g6, hmin, hmax, hD', zc9, w1, l1, true_and, zfm, Nat.sub_zero, f1, f2, f3, f4, own1, own2, htl, htn, d1, d2]
 have tk : ∀ {X : Type} (l : List X), (l.take i).take i = l.take i := fun l => by rw [List.take_take, Nat.min_self]
 have dl1 : ((zbg (zbg left (nbB left.length i)) (nbC left.length i)).drop (i + 1)).length = left.length - (i + 1) := by rw [kb, l1]
 have dl2 : (names.drop (i + 1)).length = names.length - (i + 1) := by rw [kb]
 have t1' : List.take 1 ((List.replicate 1 ((0 : Int), (0 : Int))).set 0 (cutD names i)) = [cutD names i] := rfl
 have t2' : ((List.replicate 1 ((0 : Int), (0 : Int))).set 0 (cutD names i)).length = 1 := rfl
 have f5' : i + 1 ≤ left.length := by omega
 have f7' : 2 * ((cutL left i).length * 9) ≤ 140737488355328 := by rw [← f13]; exact f7
 have f12' : 2 * ((names.eraseIdx i).length * 9) ≤ 140737488355328 := by rw [← f14]; exact f12
 have f10' : i + 1 ≤ names.length := by omega
 simp only [tk, dl1, dl2, t1', t2', List.take_length, x1, x2, f5', f6, f7, f7', f9, f10', f11, f12, f12', f13, f14, and_true, decide_true, if_true, qk, qq, Nat.zero_add, c7, ql, qi]
 unfold okC
 by_cases h1 : w64 (left.getD (nbB left.length i) 0 - 1) < 1
 ·have h1' : ¬ (1 ≤ w64 (left.getD (nbB left.length i) 0 - 1)) := by omega
  simp only [h1, h1', decide_true, if_true, false_and, decide_false, qj, if_false]
 ·have h1' : 1 ≤ w64 (left.getD (nbB left.length i) 0 - 1) := by omega
  by_cases h2 : w64 (left.getD (nbC left.length i) 0 - 1) < 1
  ·have h2' : ¬ (1 ≤ w64 (left.getD (nbC left.length i) 0 - 1)) := by omega
   simp only [h1, h1', h2, h2', decide_true, if_true, and_false, decide_false, qj, if_false]
  ·have h2' : 1 ≤ w64 (left.getD (nbC left.length i) 0 - 1) := by omega
   simp only [h1, h1', h2, h2', decide_true, if_true, and_self, decide_false, qj, if_false]
theorem z0v : ∀ (k : Nat) (left names : List Int) (out : List Dg), k < 1000 → left.length = k + 3 → names.length = k + 3 → out.length + k < 10000 →
  zjd (((), ((), ())), (left, (names, out))) = some (match zmn k left names with
   | none => .inl (((), false), [])
   | some r => .inr (((), ()), (r.1, out ++ r.2)))
 | 0, left, names, out, hk, hl, hn, ho => by
  simp only [zjd, zmn]
  refine zag ?_
  have c0 : ¬ ((left.length : Int) > 3) := by omega
  simp [zbs, T.run, c0]
 | k + 1, left, names, out, hk, hl, hn, ho => by
  cases he : ear left with
  | none =>
   have hf := zvg left names out (by omega)
   have hii : idxI (fun x => (1 : Int) == x) left = -1 := by unfold idxI; unfold ear at he; rw [he]
   rw [hii] at hf
   have c0 : (left.length : Int) > 3 := by omega
   simp only [zjd, zmn, he]
   refine zag ?_
   simp only [zbs, T.run, c0, decide_true, if_true, hf, qa, true_and]
   simp
  | some i =>
   have st := zavy left names out k i (by omega) (by omega) (by omega) (by omega) he
   simp only [zjd, zmn, he] at st ⊢
   cases hok : okC left i with
   | false =>
    rw [hok] at st
    rw [zag st]
    rfl
   | true =>
    rw [hok] at st
    have hlc := za7 (zf4 he).1
    have ih := z0v k (cutL left i) (names.eraseIdx i) (out ++ [cutD names i]) (by omega) (by omega) (by rw [List.length_eraseIdx, if_pos (by have := (zf4 he).1; omega)]; omega) (by simp; omega)
    simp only [zjd] at ih
    rw [zah st, ih]
    cases zmn k (cutL left i) (names.eraseIdx i) with
    | none => rfl
    | some r => simp
theorem zai7 (l : List Int) (hl : l.length < 4611686018427387904) : ∃ r, r.length ≤ 9 ∧ F150 l = some (match trOf l with | some ds => (((), true), ds) | none => (((), false), r)) ∧ ((trOf l).isSome → ∀ ds, trOf l = some ds → ds.length ≤ 9) := by
 have hdl : ∀ ds, trOf l = some ds → ds.length ≤ 9 := by
  intro ds h
  unfold trOf at h
  split at h
  ·rename_i hn
   rw [zay] at hn
   split at h
   ·rename_i es hT
    split at h
    ·cases h
     rw [zfu, (zgd _ _ _ _ (zcc _) (by omega) (by rw [za5]; omega) hT).1]
     omega
    ·cases h
   ·cases h
  ·cases h
 simp only [F150, zai9, T.run, F148, z8w, znh, qa]
 cases hn : inB 3 12 (l.length : Int) with
 | false => exact ⟨[], by simp, by simp [trOf, hn], fun _ => hdl⟩
 | true =>
  have hn' := zay.1 hn
  rw [zaih l 1 12 hl]
  cases ha : l.all (inB 1 12) with
  | false => exact ⟨[], by simp, by simp [zac1 l ha], fun _ => hdl⟩
  | true =>
   have hown := zia l (by omega)
   have h5 := zad1 l (by omega)
   have h10 := z0v (l.length - 3) l (zb0 l.length) [] (by omega) (by omega) (by rw [za5]; omega) (by simp; omega)
   have htri := za6d (l.length - 3) l (zb0 l.length)
   have hsp := z4w l ha hn
   simp only [Bool.not_true, qj, if_false, qa, hown, List.replicate_zero, qq, true_and, decide_true, if_true, h5, h10]
   cases hW : zmn (l.length - 3) l (zb0 l.length) with
   | none =>
    rw [htri, hW] at hsp
    exact ⟨[], by simp, by rw [← hsp]; simp, fun _ => hdl⟩
   | some r =>
    obtain ⟨l3, ds⟩ := r
    obtain ⟨g1, g2⟩ := z4x _ _ _ _ (by omega) hW
    simp only at g1 g2
    rw [htri, hW] at hsp
    have hs := za6p ds (by omega)
    have hls := zfu ds
    match l3, g1 with
    | [a, b, c], _ =>
     refine ⟨zha ds, by omega, ?_, fun _ => hdl⟩
     rw [← hsp]
     simp only [Sum.isLeft, Sum.getRight?, qa, qj, if_false, qw, Nat.zero_add, qi, decide_true, if_true, zap, hs]
     by_cases ea : a = 1 <;> by_cases eb : b = 1 <;> by_cases ec : c = 1 <;> simp [ea, eb, ec]
def z95 : FSh := ⟨[(.one (.sl (.int .i64) false false))], []⟩
def z94 : List FO := [⟨[(.one .sb)], []⟩]
def zbbe : List Int → T Bool := fun quiddity =>(.sub (F150 quiddity) fun z0 =>(.ret z0.1.2))
def F87 (v) := (zbbe v).run
def zbia : TEnv := (E0.add1 zab7 zxz zxy F150)
theorem zbbd : (zbia).OK := (E0ok.add1 zai8)
def zaxn : Nat → Option zal := fun id => none
theorem za36 : FOK Tryz.prog za1j z95 z94 F87 :=
 zao (E := zbia) (zbbd) (told := zaxn) (fl := []) (c := zac za5t) (s := z95) (l := z94) (tree := zbbe) za0f (by kernel_rfl) (by kernel_rfl) (by kernel_rfl) (zab (ls := []) (by kernel_rfl) trivial) (fun v => by kernel_rfl)
theorem za35 (l : List Int) (hl : l.length < 4611686018427387904) : F87 l = some (trOf l).isSome := by
 obtain ⟨r, _, h, _⟩ := zai7 l hl
 simp only [F87, zbbe, T.run, h, qa]
 cases trOf l <;> rfl
def zfy (q : List Int) (at' : Nat) : List Int :=
 let m := q.take at' ++ 1 :: q.drop at'
 let m1 := m.set (at' - 1) (m.getD (at' - 1) 0 + 1)
 m1.set ((at' + 1) % (q.length + 1)) (m1.getD ((at' + 1) % (q.length + 1)) 0 + 1)
def zzb : List (List Int) := [[1, 1, 1]]
def zzc : List (List Int) := [[1, 2, 1, 2], [2, 1, 2, 1]]
def zzd : List (List Int) := [[1, 2, 2, 1, 3], [1, 3, 1, 2, 2], [2, 1, 3, 1, 2], [2, 2, 1, 3, 1], [3, 1, 2, 2, 1]]
def zze : List (List Int) := [[1, 2, 2, 2, 1, 4], [1, 2, 3, 1, 2, 3], [1, 3, 1, 3, 1, 3], [1, 3, 2, 1, 3, 2], [1, 4, 1, 2, 2, 2], [2, 1, 3, 2, 1, 3], [2, 1, 4, 1, 2, 2], [2, 2, 1, 4, 1, 2], [2, 2, 2, 1, 4, 1], [2, 3, 1, 2, 3, 1], [3, 1, 2, 3, 1, 2], [3, 1, 3, 1, 3, 1], [3, 2, 1, 3, 2, 1], [4, 1, 2, 2, 2, 1]]
def zzf : List (List Int) := [[1, 2, 2, 2, 2, 1, 5], [1, 2, 2, 3, 1, 2, 4], [1, 2, 3, 1, 3, 1, 4], [1, 2, 3, 2, 1, 3, 3], [1, 2, 4, 1, 2, 2, 3], [1, 3, 1, 3, 2, 1, 4], [1, 3, 1, 4, 1, 2, 3], [1, 3, 2, 1, 4, 1, 3], [1, 3, 2, 2, 1, 4, 2], [1, 3, 3, 1, 2, 3, 2], [1, 4, 1, 2, 3, 1, 3], [1, 4, 1, 3, 1, 3, 2], [1, 4, 2, 1, 3, 2, 2], [1, 5, 1, 2, 2, 2, 2], [2, 1, 3, 2, 2, 1, 4], [2, 1, 3, 3, 1, 2, 3], [2, 1, 4, 1, 3, 1, 3], [2, 1, 4, 2, 1, 3, 2], [2, 1, 5, 1, 2, 2, 2], [2, 2, 1, 4, 2, 1, 3], [2, 2, 1, 5, 1, 2, 2], [2, 2, 2, 1, 5, 1, 2], [2, 2, 2, 2, 1, 5, 1], [2, 2, 3, 1, 2, 4, 1], [2, 3, 1, 2, 4, 1, 2], [2, 3, 1, 3, 1, 4, 1], [2, 3, 2, 1, 3, 3, 1], [2, 4, 1, 2, 2, 3, 1], [3, 1, 2, 3, 2, 1, 3], [3, 1, 2, 4, 1, 2, 2], [3, 1, 3, 1, 4, 1, 2], [3, 1, 3, 2, 1, 4, 1], [3, 1, 4, 1, 2, 3, 1], [3, 2, 1, 3, 3, 1, 2], [3, 2, 1, 4, 1, 3, 1], [3, 2, 2, 1, 4, 2, 1], [3, 3, 1, 2, 3, 2, 1], [4, 1, 2, 2, 3, 1, 2], [4, 1, 2, 3, 1, 3, 1], [4, 1, 3, 1, 3, 2, 1], [4, 2, 1, 3, 2, 2, 1], [5, 1, 2, 2, 2, 2, 1]]
def z7h : List (List Int) := [[1, 2, 2, 2, 2, 2, 1, 6], [1, 2, 2, 2, 3, 1, 2, 5], [1, 2, 2, 3, 1, 3, 1, 5], [1, 2, 2, 3, 2, 1, 3, 4], [1, 2, 2, 4, 1, 2, 2, 4], [1, 2, 3, 1, 3, 2, 1, 5], [1, 2, 3, 1, 4, 1, 2, 4], [1, 2, 3, 2, 1, 4, 1, 4], [1, 2, 3, 2, 2, 1, 4, 3], [1, 2, 3, 3, 1, 2, 3, 3], [1, 2, 4, 1, 2, 3, 1, 4], [1, 2, 4, 1, 3, 1, 3, 3], [1, 2, 4, 2, 1, 3, 2, 3], [1, 2, 5, 1, 2, 2, 2, 3], [1, 3, 1, 3, 2, 2, 1, 5], [1, 3, 1, 3, 3, 1, 2, 4], [1, 3, 1, 4, 1, 3, 1, 4], [1, 3, 1, 4, 2, 1, 3, 3], [1, 3, 1, 5, 1, 2, 2, 3], [1, 3, 2, 1, 4, 2, 1, 4], [1, 3, 2, 1, 5, 1, 2, 3], [1, 3, 2, 2, 1, 5, 1, 3], [1, 3, 2, 2, 2, 1, 5, 2], [1, 3, 2, 3, 1, 2, 4, 2], [1, 3, 3, 1, 2, 4, 1, 3], [1, 3, 3, 1, 3, 1, 4, 2], [1, 3, 3, 2, 1, 3, 3, 2], [1, 3, 4, 1, 2, 2, 3, 2], [1, 4, 1, 2, 3, 2, 1, 4], [1, 4, 1, 2, 4, 1, 2, 3], [1, 4, 1, 3, 1, 4, 1, 3], [1, 4, 1, 3, 2, 1, 4, 2], [1, 4, 1, 4, 1, 2, 3, 2], [1, 4, 2, 1, 3, 3, 1, 3], [1, 4, 2, 1, 4, 1, 3, 2], [1, 4, 2, 2, 1, 4, 2, 2], [1, 4, 3, 1, 2, 3, 2, 2], [1, 5, 1, 2, 2, 3, 1, 3], [1, 5, 1, 2, 3, 1, 3, 2], [1, 5, 1, 3, 1, 3, 2, 2], [1, 5, 2, 1, 3, 2, 2, 2], [1, 6, 1, 2, 2, 2, 2, 2], [2, 1, 3, 2, 2, 2, 1, 5], [2, 1, 3, 2, 3, 1, 2, 4], [2, 1, 3, 3, 1, 3, 1, 4], [2, 1, 3, 3, 2, 1, 3, 3], [2, 1, 3, 4, 1, 2, 2, 3], [2, 1, 4, 1, 3, 2, 1, 4], [2, 1, 4, 1, 4, 1, 2, 3], [2, 1, 4, 2, 1, 4, 1, 3], [2, 1, 4, 2, 2, 1, 4, 2], [2, 1, 4, 3, 1, 2, 3, 2], [2, 1, 5, 1, 2, 3, 1, 3], [2, 1, 5, 1, 3, 1, 3, 2], [2, 1, 5, 2, 1, 3, 2, 2], [2, 1, 6, 1, 2, 2, 2, 2], [2, 2, 1, 4, 2, 2, 1, 4], [2, 2, 1, 4, 3, 1, 2, 3], [2, 2, 1, 5, 1, 3, 1, 3], [2, 2, 1, 5, 2, 1, 3, 2], [2, 2, 1, 6, 1, 2, 2, 2], [2, 2, 2, 1, 5, 2, 1, 3], [2, 2, 2, 1, 6, 1, 2, 2], [2, 2, 2, 2, 1, 6, 1, 2], [2, 2, 2, 2, 2, 1, 6, 1], [2, 2, 2, 3, 1, 2, 5, 1], [2, 2, 3, 1, 2, 5, 1, 2], [2, 2, 3, 1, 3, 1, 5, 1], [2, 2, 3, 2, 1, 3, 4, 1], [2, 2, 4, 1, 2, 2, 4, 1], [2, 3, 1, 2, 4, 2, 1, 3], [2, 3, 1, 2, 5, 1, 2, 2], [2, 3, 1, 3, 1, 5, 1, 2], [2, 3, 1, 3, 2, 1, 5, 1], [2, 3, 1, 4, 1, 2, 4, 1], [2, 3, 2, 1, 3, 4, 1, 2], [2, 3, 2, 1, 4, 1, 4, 1], [2, 3, 2, 2, 1, 4, 3, 1], [2, 3, 3, 1, 2, 3, 3, 1], [2, 4, 1, 2, 2, 4, 1, 2], [2, 4, 1, 2, 3, 1, 4, 1], [2, 4, 1, 3, 1, 3, 3, 1], [2, 4, 2, 1, 3, 2, 3, 1], [2, 5, 1, 2, 2, 2, 3, 1], [3, 1, 2, 3, 2, 2, 1, 4], [3, 1, 2, 3, 3, 1, 2, 3], [3, 1, 2, 4, 1, 3, 1, 3], [3, 1, 2, 4, 2, 1, 3, 2], [3, 1, 2, 5, 1, 2, 2, 2], [3, 1, 3, 1, 4, 2, 1, 3], [3, 1, 3, 1, 5, 1, 2, 2], [3, 1, 3, 2, 1, 5, 1, 2], [3, 1, 3, 2, 2, 1, 5, 1], [3, 1, 3, 3, 1, 2, 4, 1], [3, 1, 4, 1, 2, 4, 1, 2], [3, 1, 4, 1, 3, 1, 4, 1], [3, 1, 4, 2, 1, 3, 3, 1], [3, 1, 5, 1, 2, 2, 3, 1], [3, 2, 1, 3, 3, 2, 1, 3], [3, 2, 1, 3, 4, 1, 2, 2], [3, 2, 1, 4, 1, 4, 1, 2], [3, 2, 1, 4, 2, 1, 4, 1], [3, 2, 1, 5, 1, 2, 3, 1], [3, 2, 2, 1, 4, 3, 1, 2], [3, 2, 2, 1, 5, 1, 3, 1], [3, 2, 2, 2, 1, 5, 2, 1], [3, 2, 3, 1, 2, 4, 2, 1], [3, 3, 1, 2, 3, 3, 1, 2], [3, 3, 1, 2, 4, 1, 3, 1], [3, 3, 1, 3, 1, 4, 2, 1], [3, 3, 2, 1, 3, 3, 2, 1], [3, 4, 1, 2, 2, 3, 2, 1], [4, 1, 2, 2, 3, 2, 1, 3], [4, 1, 2, 2, 4, 1, 2, 2], [4, 1, 2, 3, 1, 4, 1, 2], [4, 1, 2, 3, 2, 1, 4, 1], [4, 1, 2, 4, 1, 2, 3, 1], [4, 1, 3, 1, 3, 3, 1, 2], [4, 1, 3, 1, 4, 1, 3, 1], [4, 1, 3, 2, 1, 4, 2, 1], [4, 1, 4, 1, 2, 3, 2, 1], [4, 2, 1, 3, 2, 3, 1, 2], [4, 2, 1, 3, 3, 1, 3, 1], [4, 2, 1, 4, 1, 3, 2, 1], [4, 2, 2, 1, 4, 2, 2, 1], [4, 3, 1, 2, 3, 2, 2, 1], [5, 1, 2, 2, 2, 3, 1, 2], [5, 1, 2, 2, 3, 1, 3, 1], [5, 1, 2, 3, 1, 3, 2, 1], [5, 1, 3, 1, 3, 2, 2, 1], [5, 2, 1, 3, 2, 2, 2, 1], [6, 1, 2, 2, 2, 2, 2, 1]]
def z2u : Nat → List (List Int)
 | 0 => zzb | 1 => zzc | 2 => zzd | 3 => zze | 4 => zzf | 5 => z7h | _ => []
theorem zar4 : ∀ q ∈ zzb, (trOf q).isSome = true ∧ q.length = 3 ∧ ∀ v ∈ q, 1 ≤ v ∧ v ≤ 12 := by decide +kernel
theorem zar5 : ∀ q ∈ zzc, (trOf q).isSome = true ∧ q.length = 4 ∧ ∀ v ∈ q, 1 ≤ v ∧ v ≤ 12 := by decide +kernel
theorem zar6 : ∀ q ∈ zzd, (trOf q).isSome = true ∧ q.length = 5 ∧ ∀ v ∈ q, 1 ≤ v ∧ v ≤ 12 := by decide +kernel
theorem zar7 : ∀ q ∈ zze, (trOf q).isSome = true ∧ q.length = 6 ∧ ∀ v ∈ q, 1 ≤ v ∧ v ≤ 12 := by decide +kernel
theorem zar8 : ∀ q ∈ zzf, (trOf q).isSome = true ∧ q.length = 7 ∧ ∀ v ∈ q, 1 ≤ v ∧ v ≤ 12 := by decide +kernel
theorem zar9 : ∀ q ∈ z7h, (trOf q).isSome = true ∧ q.length = 8 ∧ ∀ v ∈ q, 1 ≤ v ∧ v ≤ 12 := by decide +kernel
theorem zarz : ∀ q ∈ zzb, ∀ j, j < 3 → zfy q (j + 1) ∈ zzc := by decide +kernel
theorem zar0 : ∀ q ∈ zzc, ∀ j, j < 4 → zfy q (j + 1) ∈ zzd := by decide +kernel
theorem zar1 : ∀ q ∈ zzd, ∀ j, j < 5 → zfy q (j + 1) ∈ zze := by decide +kernel
theorem zar2 : ∀ q ∈ zze, ∀ j, j < 6 → zfy q (j + 1) ∈ zzf := by decide +kernel
theorem zar3 : ∀ q ∈ zzf, ∀ j, j < 7 → zfy q (j + 1) ∈ z7h := by decide +kernel
theorem zlz (k : Nat) (q : List Int) (h : q ∈ z2u k) : (trOf q).isSome = true ∧ q.length = k + 3 ∧ ∀ v ∈ q, 1 ≤ v ∧ v ≤ 12 := by
 match k, h with
 | 0, h => exact zar4 q h
 | 1, h => exact zar5 q h
 | 2, h => exact zar6 q h
 | 3, h => exact zar7 q h
 | 4, h => exact zar8 q h
 | 5, h => exact zar9 q h
 | k + 6, h => exact absurd h (by simp [z2u])
theorem zabq (k : Nat) (hk : k < 5) (q : List Int) (h : q ∈ z2u k) (j : Nat) (hj : j < k + 3) : zfy q (j + 1) ∈ z2u (k + 1) := by
 match k, h with
 | 0, h => exact zarz q h j hj
 | 1, h => exact zar0 q h j hj
 | 2, h => exact zar1 q h j hj
 | 3, h => exact zar2 q h j hj
 | 4, h => exact zar3 q h j hj
theorem zk2 {q : List Int} {at' : Nat} (h1 : 1 ≤ at') (h2 : at' ≤ q.length) (hl : 3 ≤ q.length) (hv : ∀ v ∈ q, 1 ≤ v ∧ v ≤ 12) :
  (q.take at' ++ 1 :: q.drop at').length = q.length + 1 ∧ (∀ p, p < q.length + 1 → 1 ≤ (q.take at' ++ 1 :: q.drop at').getD p 0 ∧ (q.take at' ++ 1 :: q.drop at').getD p 0 ≤ 12) ∧ (at' + 1) % (q.length + 1) < q.length + 1 ∧ (at' + 1) % (q.length + 1) ≠ at' - 1 := by
 refine ⟨by simp; omega, fun p hp => ?_, Nat.mod_lt _ (by omega), ?_⟩
 ·have hlt : p < (q.take at' ++ 1 :: q.drop at').length := by simp; omega
  rw [qg, qb hlt, Option.getD_some]
  have := List.getElem_mem hlt
  rcases kg.1 this with h | h
  ·exact hv _ (List.mem_of_mem_take h)
  ·rcases List.mem_cons.1 h with h | h
   ·rw [h]; omega
   ·exact hv _ (List.mem_of_mem_drop h)
 ·by_cases h : at' = q.length
  ·rw [h, Nat.mod_self]; omega
  ·rw [Nat.mod_eq_of_lt (by omega)]; omega
def rI (z : Int) : Int := (z * 187 + 3301) % 10007
def mkN : Nat → List Int → Int → List Int × Int
 | 0, q, z => (q, z)
 | m + 1, q, z => mkN m (zfy q ((rI z % (q.length : Int)).toNat + 1)) (rI z)
theorem rI_B (z : Int) : 0 ≤ rI z ∧ rI z < 10007 := by unfold rI; omega
theorem rI_w {z : Int} (h1 : 0 ≤ z) (h2 : z < 10007) : Int.tmod (w64 ((w64 (z * 187)) + 3301)) (10007 : Int) = rI z := by
 rw [zae (z := z * 187) (by omega) (by omega), zae (by omega) (by omega), Int.tmod_eq_emod_of_nonneg (by omega)]
 rfl
theorem ztp : ∀ (m k : Nat) (q : List Int) (z : Int), q ∈ z2u k → k + m ≤ 6 → 0 ≤ z → z < 10007 → ((mkN m q z).1.length = k + 3 + m ∧ ∀ v ∈ (mkN m q z).1, 1 ≤ v ∧ v ≤ 100) ∧ 0 ≤ (mkN m q z).2 ∧ (mkN m q z).2 < 10007
 | 0, k, q, z, hq, hk, h1, h2 => by
  obtain ⟨_, g1, g2⟩ := zlz k q hq
  exact ⟨⟨g1, fun v hv => by have := g2 v hv; omega⟩, h1, h2⟩
 | m + 1, k, q, z, hq, hk, h1, h2 => by
  obtain ⟨g0, g1, g2⟩ := zlz k q hq
  have hr := rI_B z
  have hj : (rI z % (q.length : Int)).toNat < k + 3 := by have := Int.emod_lt_of_pos (rI z) (show (0 : Int) < (q.length : Int) by omega); omega
  by_cases h5 : k < 5
  ·have ih := ztp m (k + 1) (zfy q ((rI z % (q.length : Int)).toNat + 1)) (rI z) (zabq k h5 q hq _ hj) (by omega) hr.1 hr.2
   refine ⟨⟨?_, ih.1.2⟩, ih.2⟩
   show (mkN m _ _).1.length = _
   rw [ih.1.1]; omega
  ·have hm0 : m = 0 := by omega
   subst hm0
   show (((zfy q _).length = _ ∧ ∀ v ∈ zfy q _, _) ∧ _)
   generalize (rI z % (q.length : Int)).toNat = j at hj
   obtain ⟨f1, f2, f3, f4⟩ := zk2 (q := q) (at' := j + 1) (by omega) (by omega) (by omega) g2
   refine ⟨⟨?_, fun v hv => ?_⟩, hr⟩
   ·unfold zfy; simp only [qy, f1]; omega
   ·unfold zfy at hv
    simp only [] at hv
    generalize q.take (j + 1) ++ 1 :: q.drop (j + 1) = w at *
    have hw : ∀ x ∈ w, 1 ≤ x ∧ x ≤ 12 := fun x hx => by
     obtain ⟨p, hp, e⟩ := List.getElem_of_mem hx
     have := f2 p (by omega)
     rwa [qg, qb hp, Option.getD_some, e] at this
    have b1 := f2 (j + 1 - 1) (by omega)
    rcases List.mem_or_eq_of_mem_set hv with h | h
    ·rcases List.mem_or_eq_of_mem_set h with h | h
     ·have := hw v h; omega
     ·omega
    ·have b2 := f2 ((j + 1 + 1) % (q.length + 1)) f3
     simp only [qg] at h b1 b2
     rw [kh (Ne.symm f4)] at h
     omega
def plG (q : List Int) (acc : List Int) (j : Nat) : List Int := if q.getD j 0 > 0 then acc ++ [(j : Int)] else acc
def pl (q : List Int) : List Int := (List.range q.length).foldl (plG q) []
theorem zbjv (q : List Int) : ∀ (l : List Nat) (acc : List Int), l.foldl (plG q) acc = acc ++ (l.filter (fun j => decide (q.getD j 0 > 0))).map (fun (j : Nat) => (j : Int))
 | [], acc => by simp
 | j :: l, acc => by
  rw [List.foldl_cons, zbjv q l, List.filter_cons]
  unfold plG
  by_cases h : q.getD j 0 > 0
  ·simp only [h, decide_true, if_true, qu, List.append_assoc, List.cons_append, qw]
  ·simp only [h, decide_false, qj, if_false]
theorem zbju (q : List Int) : pl q = ((List.range q.length).filter (fun j => decide (q.getD j 0 > 0))).map (fun (j : Nat) => (j : Int)) := by
 unfold pl
 rw [zbjv, qw]
theorem za58 {q : List Int} {x : Int} (h : x ∈ pl q) : 0 ≤ x ∧ x < q.length ∧ q.getD x.toNat 0 > 0 := by
 rw [zbju] at h
 obtain ⟨j, hj, e⟩ := List.mem_map.1 h
 obtain ⟨h1, h2⟩ := List.mem_filter.1 hj
 have := List.mem_range.1 h1
 subst e
 have h2 := ku h2
 rw [qe]
 exact ⟨by omega, by omega, h2⟩
theorem zacd (q : List Int) : (pl q).length = q.countP (fun v => decide (v > 0)) := by
 rw [zbju, km, ← List.countP_eq_length_filter]
 have : q = (List.range q.length).map (fun j => q.getD j 0) := by
  refine List.ext_getElem (by simp) fun p hp _ => ?_
  simp [qg, hp]
 conv => rhs; rw [this]
 rw [List.countP_map]
 rfl
theorem za59 {q : List Int} {x : Int} (h : x ∈ pl q) : (pl (q.set x.toNat 0)).length + 1 = (pl q).length := by
 obtain ⟨h1, h2, h3⟩ := za58 h
 have hlt : x.toNat < q.length := by omega
 rw [zacd, zacd, List.countP_set hlt]
 rw [qg, qb hlt, Option.getD_some] at h3
 have hp : 0 < q.countP (fun v => decide (v > 0)) := List.countP_pos_iff.2 ⟨_, List.getElem_mem hlt, by simpa using h3⟩
 have h0 : ¬ ((0 : Int) > 0) := by omega
 simp only [h3, h0, decide_true, if_true, decide_false, qj, if_false]
 omega
def gapN : Nat → List Int → Int → List Int
 | 0, q, _ => q
 | m + 1, q, z => gapN m (q.set ((pl q).getD (rI z % ((pl q).length : Int)).toNat 0).toNat 0) (rI z)
def mkPz (n gaps seed : Int) : Bool × List Int :=
 if inB 3 9 n && inB 0 n gaps && inB 0 9999 seed then
  let r := mkN (n - 3).toNat [1, 1, 1] seed
  (true, gapN gaps.toNat r.1 r.2)
 else (false, [])
theorem zats {q : List Int} {z : Int} (h : 0 < (pl q).length) : 0 ≤ rI z % ((pl q).length : Int) ∧ rI z % ((pl q).length : Int) < ((pl q).length : Int) ∧ (pl q)[(rI z % ((pl q).length : Int)).toNat]? = some ((pl q).getD (rI z % ((pl q).length : Int)).toNat 0) ∧ (pl q).getD (rI z % ((pl q).length : Int)).toNat 0 ∈ pl q := by
 have h1 := Int.emod_nonneg (rI z) (show ((pl q).length : Int) ≠ 0 by omega)
 have h2 := Int.emod_lt_of_pos (rI z) (show (0 : Int) < ((pl q).length : Int) by omega)
 have h3 : (rI z % ((pl q).length : Int)).toNat < (pl q).length := by omega
 exact ⟨h1, h2, za8 h3, qp (za8 h3)⟩
theorem zabw (n : Int) (hn : inB 3 9 n = true) (s : Int) (hs : inB 0 9999 s = true) : ∃ m : Nat, (n - 3).toNat = m ∧ m ≤ 6 ∧ ((0 + 3 + m : Nat) : Int) = n ∧ 0 ≤ s ∧ s < 10007 ∧ [1, 1, 1] ∈ z2u 0 := by
 rw [zay] at hn hs
 exact ⟨(n - 3).toNat, rfl, by omega, by omega, by omega, by omega, by simp [z2u, zzb]⟩
theorem z7r {q : List Int} (h : ∀ v ∈ q, 1 ≤ v ∧ v ≤ 100) : (pl q).length = q.length := by
 rw [zacd, List.countP_eq_length]
 intro v hv
 have := h v hv
 simp; omega
def z5m : FSh := ⟨[(.one (.sl (.int .i64) false false)), (.one (.si .i64))], []⟩
def z5l : List FO := [⟨[(.one (.rw 0 0)), (.one .sb)], [qr1]⟩]
def zag1 : (List Int × Int) → T ((Unit × Bool) × List Int) := fun (quiddity, at') =>(.sub (F87 quiddity) fun z0 =>(.test (! z0) (.test true (.ret (((), false), ([] : List Int))) .fail) (.test ((quiddity.length : Int) == 12) (.test true (.ret (((), false), ([] : List Int))) .fail) (.sub (F147 (at', ((1 : Int), (quiddity.length : Int)))) fun z1 =>(.test (! z1) (.test true (.ret (((), false), ([] : List Int))) .fail) (.test (decide (0 ≤ at')) (.test (decide ((0 ≤ (Int.toNat at')) ∧ ((Int.toNat at') ≤ quiddity.length))) (.sub (F133 (win quiddity 0 ((Int.toNat at') - 0))) fun z2 =>(.test true (.test (decide ((0 + z2.2.length) ≤ z2.2.length)) (.test (decide ((2 * ((z2.2.length + 1) * 9)) ≤ 140737488355328)) (.test (decide (0 ≤ at')) (.test (decide (((Int.toNat at') ≤ quiddity.length) ∧ (quiddity.length ≤ quiddity.length))) (.test (decide ((0 + (z2.2.length + 1)) ≤ (List.length ((win z2.2 0 z2.2.length) ++ (win (List.set (List.replicate 1 (0 : Int)) 0 (1 : Int)) 0 1))))) (.test (decide ((2 * (((z2.2.length + 1) + (List.length (win quiddity (Int.toNat at') (quiddity.length - (Int.toNat at'))))) * 9)) ≤ 140737488355328)) (.test (decide ((0 ≤ (w64 (at' - 1))) ∧ ((w64 (at' - 1)) < (((z2.2.length + 1) + (List.length (win quiddity (Int.toNat at') (quiddity.length - (Int.toNat at'))))) : Int)))) (.sub (((win ((win z2.2 0 z2.2.length) ++ (win (List.set (List.replicate 1 (0 : Int)) 0 (1 : Int)) 0 1)) 0 (z2.2.length + 1)) ++ (win quiddity (Int.toNat at') (quiddity.length - (Int.toNat at'))))[(0 + (Int.toNat (w64 (at' - 1))))]?) fun z3 =>(.test (decide ((0 ≤ (w64 (at' - 1))) ∧ ((w64 (at' - 1)) < (((z2.2.length + 1) + (List.length (win quiddity (Int.toNat at') (quiddity.length - (Int.toNat at'))))) : Int)))) (.sub (((win ((win z2.2 0 z2.2.length) ++ (win (List.set (List.replicate 1 (0 : Int)) 0 (1 : Int)) 0 1)) 0 (z2.2.length + 1)) ++ (win quiddity (Int.toNat at') (quiddity.length - (Int.toNat at'))))[(0 + (Int.toNat (w64 (at' - 1))))]?) fun z4 =>(.test (decide ((w64 ((quiddity.length : Int) + 1)) ≠ 0)) (.test (decide ((0 ≤ (Int.tmod (w64 (at' + 1)) (w64 ((quiddity.length : Int) + 1)))) ∧ ((Int.tmod (w64 (at' + 1)) (w64 ((quiddity.length : Int) + 1))) < (((z2.2.length + 1) + (List.length (win quiddity (Int.toNat at') (quiddity.length - (Int.toNat at'))))) : Int)))) (.sub ((List.set ((win ((win z2.2 0 z2.2.length) ++ (win (List.set (List.replicate 1 (0 : Int)) 0 (1 : Int)) 0 1)) 0 (z2.2.length + 1)) ++ (win quiddity (Int.toNat at') (quiddity.length - (Int.toNat at')))) (0 + (Int.toNat (w64 (at' - 1)))) (w64 (z3 + 1)))[(0 + (Int.toNat (Int.tmod (w64 (at' + 1)) (w64 ((quiddity.length : Int) + 1)))))]?) fun z5 =>(.test (decide ((0 ≤ (Int.tmod (w64 (at' + 1)) (w64 ((quiddity.length : Int) + 1)))) ∧ ((Int.tmod (w64 (at' + 1)) (w64 ((quiddity.length : Int) + 1))) < (((z2.2.length + 1) + (List.length (win quiddity (Int.toNat at') (quiddity.length - (Int.toNat at'))))) : Int)))) (.sub ((List.set ((win ((win z2.2 0 z2.2.length) ++ (win (List.set (List.replicate 1 (0 : Int)) 0 (1 : Int)) 0 1)) 0 (z2.2.length + 1)) ++ (win quiddity (Int.toNat at') (quiddity.length - (Int.toNat at')))) (0 + (Int.toNat (w64 (at' - 1)))) (w64 (z3 + 1)))[(0 + (Int.toNat (Int.tmod (w64 (at' + 1)) (w64 ((quiddity.length : Int) + 1)))))]?) fun z6 =>(.test (decide ((0 = 0) ∧ (((z2.2.length + 1) + (List.length (win quiddity (Int.toNat at') (quiddity.length - (Int.toNat at'))))) = (List.length (List.set (List.set ((win ((win z2.2 0 z2.2.length) ++ (win (List.set (List.replicate 1 (0 : Int)) 0 (1 : Int)) 0 1)) 0 (z2.2.length + 1)) ++ (win quiddity (Int.toNat at') (quiddity.length - (Int.toNat at')))) (0 + (Int.toNat (w64 (at' - 1)))) (w64 (z3 + 1))) (0 + (Int.toNat (Int.tmod (w64 (at' + 1)) (w64 ((quiddity.length : Int) + 1))))) (w64 (z5 + 1))))))) (.ret (((), true), (List.set (List.set ((win ((win z2.2 0 z2.2.length) ++ (win (List.set (List.replicate 1 (0 : Int)) 0 (1 : Int)) 0 1)) 0 (z2.2.length + 1)) ++ (win quiddity (Int.toNat at') (quiddity.length - (Int.toNat at')))) (0 + (Int.toNat (w64 (at' - 1)))) (w64 (z3 + 1))) (0 + (Int.toNat (Int.tmod (w64 (at' + 1)) (w64 ((quiddity.length : Int) + 1))))) (w64 (z5 + 1))))) .fail)) .fail)) .fail) .fail)) .fail)) .fail) .fail) .fail) .fail) .fail) .fail) .fail) .fail)) .fail) .fail))))))
def F114 (v) := (zag1 v).run
def za2h : TEnv := (((E0.add1 za1j z95 z94 F87).add1 zpd zie zid F147).add1 zpc zic zib F133)
theorem zavg : (za2h).OK := (((E0ok.add1 za36).add1 zni).add1 zna)
def zag2 : Nat → Option zal := fun id => none
theorem za6y : FOK Tryz.prog zasy z5m z5l F114 :=
 zao (E := za2h) (zavg) (told := zag2) (fl := []) (c := zac zap7) (s := z5m) (l := z5l) (tree := zag1) zaq0 (by kernel_rfl) (by kernel_rfl) (by kernel_rfl) (zab (ls := []) (by kernel_rfl) trivial) (fun v => by kernel_rfl)
theorem za6x (q : List Int) (at' : Nat) (hq : (trOf q).isSome = true) (hl : 3 ≤ q.length) (hl2 : q.length ≤ 11) (hv : ∀ v ∈ q, 1 ≤ v ∧ v ≤ 12) (h1 : 1 ≤ at') (h2 : at' ≤ q.length) :
  F114 (q, (at' : Int)) = some (((), true), zfy q at') := by
 obtain ⟨f1, f2, f3, f4⟩ := zk2 h1 h2 hl hv
 have hb : inB 1 (q.length : Int) (at' : Int) = true := zay.2 (by omega)
 have h12 : ((q.length : Int) == 12) = false := by simp; omega
 have lt : (q.take at').length = at' := by simp; omega
 have ld : (q.drop at').length = q.length - at' := by simp
 have hown := zia (q.take at') (by omega)
 have e1 : win q 0 (at' - 0) = q.take at' := zfm _ _
 have e2 : win q at' (q.length - at') = q.drop at' := by unfold win; rw [List.take_of_length_le (by omega)]
 have e3 : win (q.take at') 0 at' = q.take at' := by rw [zfm, List.take_take, Nat.min_self]
 have l3 : (q.take at' ++ [1]).length = at' + 1 := by simp; omega
 have e4 : win (q.take at' ++ [1]) 0 (at' + 1) = q.take at' ++ [1] := by rw [← l3]; exact zap _
 have e5 : q.take at' ++ [1] ++ q.drop at' = q.take at' ++ 1 :: q.drop at' := by simp
 have w1 : w64 ((at' : Int) - 1) = ((at' - 1 : Nat) : Int) := by rw [zae (by omega) (by omega)]; omega
 have w2 : w64 ((at' : Int) + 1) = ((at' + 1 : Nat) : Int) := by rw [zae (by omega) (by omega)]; omega
 have w3 : w64 ((q.length : Int) + 1) = ((q.length + 1 : Nat) : Int) := by rw [zae (by omega) (by omega)]; omega
 have w4 : Int.tmod ((at' + 1 : Nat) : Int) ((q.length + 1 : Nat) : Int) = (((at' + 1) % (q.length + 1) : Nat) : Int) := by
  rw [Int.tmod_eq_emod_of_nonneg (by omega)]; exact (Int.natCast_emod _ _).symm
 generalize hm : q.take at' ++ 1 :: q.drop at' = m at *
 generalize hc2 : (at' + 1) % (q.length + 1) = c at *
 have b1 := f2 (at' - 1) (by omega)
 have b2 := f2 c f3
 have g1 := za8 (l := m) (p := at' - 1) (by omega)
 have e6 : (m.set (at' - 1) (m.getD (at' - 1) 0 + 1)).getD c 0 = m.getD c 0 := by
  simp only [qg]
  rw [kh (Ne.symm f4)]
 have g2 := za8 (l := m.set (at' - 1) (m.getD (at' - 1) 0 + 1)) (p := c) (by simp; omega)
 have w5 : w64 (m.getD (at' - 1) 0 + 1) = m.getD (at' - 1) 0 + 1 := zae (by omega) (by omega)
 have w6 : w64 ((m.set (at' - 1) (m.getD (at' - 1) 0 + 1)).getD c 0 + 1) = (m.set (at' - 1) (m.getD (at' - 1) 0 + 1)).getD c 0 + 1 := by rw [e6]; exact zae (by omega) (by omega)
 have q1 : at' + 1 + (q.length - at') = q.length + 1 := by omega
 have c1 : (0 : Int) ≤ ((at' - 1 : Nat) : Int) ∧ ((at' - 1 : Nat) : Int) < ((q.length + 1 : Nat) : Int) := by omega
 have c2 : (0 : Int) ≤ (c : Int) ∧ (c : Int) < ((q.length + 1 : Nat) : Int) := by omega
 have c3 : ((q.length + 1 : Nat) : Int) ≠ 0 := by omega
 have c4 : (0 : Int) ≤ (at' : Int) := by omega
 have c5 : 0 ≤ at' ∧ at' ≤ q.length := by omega
 have c6 : at' ≤ q.length ∧ q.length ≤ q.length := by omega
 have c7 : 2 * ((at' + 1) * 9) ≤ 140737488355328 := by omega
 have c8 : 2 * ((q.length + 1) * 9) ≤ 140737488355328 := by omega
 have c9 : 0 + (at' + 1) ≤ at' + 1 := by omega
 have hg : zfy q at' = (m.set (at' - 1) (m.getD (at' - 1) 0 + 1)).set c ((m.set (at' - 1) (m.getD (at' - 1) 0 + 1)).getD c 0 + 1) := by
  unfold zfy
  rw [hm, hc2]
 have x1 : ((at' : Int) + 1 + ((q.length - at' : Nat) : Int)) = ((q.length + 1 : Nat) : Int) := by omega
 simp only [F114, zag1, T.run, za35 q (by omega), hq, qa, Bool.not_true, qj, if_false, znh, hb, h12, c4, c5, c6, decide_true, if_true, and_self, qe, e1, e2, hown, lt, ld, e3, zc9, l3, e4, e5, q1, c7, c8, c9, w1, w2, w3, w4, x1, c1, c2, c3, ne_eq, not_false_eq_true, Nat.zero_add, qi, g1, w5, g2, w6, qy, f1, hg]
def z59 : FSh := ⟨[(.ag [(.sl (.int .i64) false false)]), (.one (.si .i64)), (.one (.si .i64))], []⟩
def z58 : List FO := [⟨[(.ag [(.rw 0 0)])], [qr1]⟩]
def zaim : (List Int × Int × Int) → T (Unit × List Int) := fun (p_0, at', number) =>(.sub (F133 p_0) fun z0 =>(.test (decide ((0 ≤ at') ∧ (at' < (z0.2.length : Int)))) (.sub (z0.2[(0 + (Int.toNat at'))]?) fun z1 =>(.test (decide ((0 = 0) ∧ (z0.2.length = (List.length (List.set z0.2 (0 + (Int.toNat at')) number))))) (.ret ((), (List.set z0.2 (0 + (Int.toNat at')) number))) .fail)) .fail))
def F134 (v) := (zaim v).run
def za2u : TEnv := (E0.add1 zpc zic zib F133)
theorem zavs : (za2u).OK := (E0ok.add1 zna)
def zain : Nat → Option zal := fun id => none
theorem za7g : FOK Tryz.prog zas5 z59 z58 F134 :=
 zao (E := za2u) (zavs) (told := zain) (fl := []) (c := zac zaqh) (s := z59) (l := z58) (tree := zaim) zarg (by kernel_rfl) (by kernel_rfl) (by kernel_rfl) (zab (ls := []) (by kernel_rfl) trivial) (fun v => by kernel_rfl)
theorem za7f (l : List Int) (at' n : Int) (hl : l.length < 1000000000000) (h1 : 0 ≤ at') (h2 : at' < l.length) : F134 (l, at', n) = some ((), l.set at'.toNat n) := by
 have h3 : at'.toNat < l.length := by omega
 simp [F134, zaim, T.run, zia l hl, h1, h2, h3]
def z99 : FSh := ⟨[(.one (.si .i64)), (.one (.si .i64)), (.one (.si .i64))], []⟩
def zrq : LSh := ⟨(fun ex => match ex with | .norm => (nz [0, 1, 6, 8, 9]) | .exit i => if i = 0 then (nz [1, 6, 8, 9]) else [] | .ret => (nz [6, 7])), [(0, qo1), (1, qo1), (6, qo3), (8, qo1), (9, qo9)], [(.rcd 0 [(.nl true true)]), qr1], [⟨(.exit 0), [(1, qo1), (6, qo3), (8, qo1), (9, qo9)], [(.rcd 0 [(.nl true true)]), qr1]⟩], [], []⟩
def zc2 : ((Int × Int × Unit × Int × Unit) × (Unit × List Int)) → T (((Int × Int × Unit × Int × Unit) × (Unit × List Int)) ⊕ ((Int × Unit × Int × Unit) × (Unit × List Int))) := fun ((n, gaps, (), z, ()), ((), q)) =>(.test (decide ((q.length : Int) < n)) (.test true (.test (decide ((q.length : Int) ≠ 0)) (.test (decide ((0 + q.length) ≤ q.length)) (.sub (F114 ((win q 0 q.length), (w64 ((Int.tmod (Int.tmod (w64 ((w64 (z * 187)) + 3301)) (10007 : Int)) (q.length : Int)) + 1)))) fun z0 =>(qz z0.2 (.ret (Sum.inl ((n, (gaps, ((), ((Int.tmod (w64 ((w64 (z * 187)) + 3301)) (10007 : Int)), ())))), ((), z0.2)))))) .fail) .fail) .fail) (qz q (.ret (Sum.inr ((gaps, ((), (z, ()))), ((), q))))))
def z09 (v) := zav (fun v => (zc2 v).run) v
def zno : LSh := ⟨(fun ex => match ex with | .norm => (nz [1, 6, 8, 10, 11, 57, 58, 59]) | .exit i => if i = 4 then (nz [1, 6, 8, 10, 11]) else if i = 3 then (nz [1, 6, 8, 10]) else if i = 2 then (nz [6, 10]) else [] | .ret => (nz [6, 7])), [(1, qo1), (6, qo3), (8, qo1), (10, (.one (.pf 1 0 0))), (11, (.one (.rw 3 0))), (57, qo8), (58, qo1), (59, qo1)], [(.rcd 0 [(.nl true true)]), (.rcd 0 [(.rw 2 0)]), qr1, qr1], [⟨(.exit 4), [(1, qo1), (6, qo3), (8, qo1), (10, (.one (.pf 1 0 0))), (11, (.one (.rw 3 0)))], [(.rcd 0 [(.nl true true)]), (.rcd 0 [(.rw 2 0)]), qr1, qr1]⟩], [], []⟩
def zcb : ((Int × Unit × Int × Unit × Unit × Unit × Int × Int) × (Unit × Unit × List Int × List Int)) → T (((Int × Unit × Int × Unit × Unit × Unit × Int × Int) × (Unit × Unit × List Int × List Int)) ⊕ ((Int × Unit × Int × Unit × Unit) × (Unit × Unit × List Int × List Int))) := fun ((gaps, (), z, (), (), (), t58, t59), ((), (), t57, full)) =>(.test (decide (t59 < t58)) (.test (decide ((0 ≤ t59) ∧ (t59 < (t57.length : Int)))) (.sub (t57[(0 + (Int.toNat t59))]?) fun z0 =>(.test (decide (z0 > 0)) (.test (decide (1 ≤ (List.length (List.set (List.replicate 1 (0 : Int)) 0 t59)))) (.test (decide ((0 + full.length) ≤ full.length)) (.test (decide ((2 * ((full.length + (List.length (win (List.set (List.replicate 1 (0 : Int)) 0 t59) 0 1))) * 9)) ≤ 140737488355328)) (.test (decide ((0 = 0) ∧ ((full.length + (List.length (win (List.set (List.replicate 1 (0 : Int)) 0 t59) 0 1))) = (List.length ((win full 0 full.length) ++ (win (List.set (List.replicate 1 (0 : Int)) 0 t59) 0 1)))))) (qz t57 (qz t57 (.ret (Sum.inl ((gaps, ((), (z, ((), ((), ((), (t58, (w64 (t59 + 1))))))))), ((), ((), (t57, ((win full 0 full.length) ++ (win (List.set (List.replicate 1 (0 : Int)) 0 t59) 0 1)))))))))) .fail) .fail) .fail) .fail) (qz full (qz t57 (qz t57 (.ret (Sum.inl ((gaps, ((), (z, ((), ((), ((), (t58, (w64 (t59 + 1))))))))), ((), ((), (t57, full))))))))))) .fail) (qz full (qz t57 (.ret (Sum.inr ((gaps, ((), (z, ((), ())))), ((), ((), (t57, full)))))))))
def z6z (v) := zav (fun v => (zcb v).run) v
def zrr : LSh := ⟨(fun ex => match ex with | .norm => (nz [1, 6, 8, 10]) | .exit i => if i = 2 then (nz [6, 10]) else [] | .ret => (nz [6, 7])), [(1, qo1), (6, qo3), (8, qo1), (10, (.one (.pf 1 0 0)))], [(.rcd 0 [(.nl true true)]), (.rcd 0 [(.rw 2 0)]), qr1], [⟨(.exit 2), [(6, qo3), (10, (.one (.pf 1 0 0)))], [(.rcd 0 [(.nl true true)]), (.rcd 0 [(.rw 2 0)]), qr1]⟩], [], []⟩
def ze7 : ((Int × Unit × Int × Unit) × (Unit × Unit × List Int)) → T (((Int × Unit × Int × Unit) × (Unit × Unit × List Int)) ⊕ ((Unit × Unit) × (Unit × Unit × List Int))) := fun ((gaps, (), z, ()), ((), (), p_r)) =>(.test (decide (gaps > 0)) (.test (decide ((0 = 0) ∧ (0 = (List.length ([] : List Int))))) (qz p_r (qz p_r (.sub (z6z ((gaps, ((), (z, ((), ((), ((), ((p_r.length : Int), (0 : Int)))))))), ((), ((), (p_r, ([] : List Int)))))) fun z0 =>(.test true (.test (decide ((z0.2.2.2.2.length : Int) ≠ 0)) (.test (decide ((0 ≤ (Int.tmod (Int.tmod (w64 ((w64 (z0.1.2.2.1 * 187)) + 3301)) (10007 : Int)) (z0.2.2.2.2.length : Int))) ∧ ((Int.tmod (Int.tmod (w64 ((w64 (z0.1.2.2.1 * 187)) + 3301)) (10007 : Int)) (z0.2.2.2.2.length : Int)) < (z0.2.2.2.2.length : Int)))) (.sub (z0.2.2.2.2[(0 + (Int.toNat (Int.tmod (Int.tmod (w64 ((w64 (z0.1.2.2.1 * 187)) + 3301)) (10007 : Int)) (z0.2.2.2.2.length : Int))))]?) fun z1 =>(.test (decide ((0 + z0.2.2.2.1.length) ≤ z0.2.2.2.1.length)) (.sub (F134 ((win z0.2.2.2.1 0 z0.2.2.2.1.length), (z1, (0 : Int)))) fun z2 =>(qz z2.2 (.ret (Sum.inl (((w64 (z0.1.1 - 1)), ((), ((Int.tmod (w64 ((w64 (z0.1.2.2.1 * 187)) + 3301)) (10007 : Int)), ()))), ((), ((), z2.2))))))) .fail)) .fail) .fail) .fail)))) .fail) (qz p_r (.ret (Sum.inr (((), ()), ((), ((), p_r)))))))
def z96 (v) := zav (fun v => (ze7 v).run) v
def zaaa : List FO := [⟨[(.ag [(.nl true true)]), (.one .sb)], []⟩, ⟨[(.ag [(.rw 0 0)]), (.one .sb)], [qr1]⟩]
def zbbf : (Int × Int × Int) → T ((Unit × Bool) ⊕ ((Unit × Bool) × List Int)) := fun (n, gaps, seed) =>(.sub (F147 (n, ((3 : Int), (9 : Int)))) fun z0 =>(.test (! z0) (.ret (Sum.inl ((), false))) (.sub (F147 (gaps, ((0 : Int), n))) fun z1 =>(.test (! z1) (.ret (Sum.inl ((), false))) (.sub (F147 (seed, ((0 : Int), (9999 : Int)))) fun z2 =>(.test (! z2) (.ret (Sum.inl ((), false))) (.test true (.sub (z09 ((n, (gaps, ((), (seed, ())))), ((), (List.set (List.set (List.set (List.replicate 3 (0 : Int)) 0 (1 : Int)) 1 (1 : Int)) 2 (1 : Int))))) fun z3 =>(.test (decide ((0 + z3.2.2.length) ≤ z3.2.2.length)) (.sub (F133 (win z3.2.2 0 z3.2.2.length)) fun z4 =>(qz z4.2 (.sub (z96 ((z3.1.1, ((), (z3.1.2.2.1, ()))), ((), ((), z4.2)))) fun z5 =>(qz z5.2.2.2 (.ret (Sum.inr (((), true), z5.2.2.2))))))) .fail)) .fail)))))))
def zbbg (v) := (zbbf v).run
def zani : TEnv := ((((E0.add1 zpd zie zid F147).add1 zasy z5m z5l F114).add1 zpc zic zib F133).add1 zas5 z59 z58 F134)
theorem zyb : (zani).OK := ((((E0ok.add1 zni).add1 za6y).add1 zna).add1 za7g)
def zpy : Nat → Option zal := fun id => if id = 5 then some (LSh.told zrq 0 (zc2)) else if id = 13 then some (LSh.told zno 0 (zcb)) else if id = 9 then some (LSh.told zrr 0 (ze7)) else none
theorem zanj : zan Tryz.prog 0 (zad (zac zo9) [0]) (LSh.told zrq 0 (zc2)) :=
 zak (E := zani) (zyb) (told := zpy) (l := zrq) (step := zc2) (zab (ls := []) (by kernel_rfl) trivial) (by kernel_rfl) (fun v => by kernel_rfl)
theorem zad6 : zan Tryz.prog 0 (zad (zac zo9) [1, 0]) (LSh.told zno 0 (zcb)) :=
 zak (E := zani) (zyb) (told := zpy) (l := zno) (step := zcb) (zab (ls := []) (by kernel_rfl) trivial) (by kernel_rfl) (fun v => by kernel_rfl)
theorem zank : zan Tryz.prog 0 (zad (zac zo9) [1]) (LSh.told zrr 0 (ze7)) :=
 zak (E := zani) (zyb) (told := zpy) (l := zrr) (step := ze7) (zab (ls := [zad (zac zo9) [1, 0]]) (by kernel_rfl) ⟨.inr ⟨_, by kernel_rfl, zad6⟩, trivial⟩) (by kernel_rfl) (fun v => by kernel_rfl)
theorem zaxo : FOK Tryz.prog za1k z99 zaaa zbbg :=
 zao (E := zani) (zyb) (told := zpy) (fl := []) (c := zac zo9) (s := z99) (l := zaaa) (tree := zbbf) za0g (by kernel_rfl) (by kernel_rfl) (by kernel_rfl) (zab (ls := [zad (zac zo9) [0], zad (zac zo9) [1]]) (by kernel_rfl) ⟨.inr ⟨_, by kernel_rfl, zanj⟩, ⟨.inr ⟨_, by kernel_rfl, zank⟩, trivial⟩⟩) (fun v => by kernel_rfl)
def zanl : List FO := [⟨[(.ag [(.rw 0 0)]), (.one .sb)], [qr1]⟩]
def zad7 : ((Unit × Bool) ⊕ ((Unit × Bool) × List Int)) → ((Unit × Bool) × List Int) := fun o => match o with | (.inl a) => (a, []) | (.inr x) => x
def F88 (v : (Int × Int × Int)) : Option ((Unit × Bool) × List Int) := (zbbg v).map zad7
theorem zbic : FOK Tryz.prog za1k z99 zanl F88 :=
 FOK.own (l' := zanl) zaxo zad7 [(.int .i64)] (by decide) (fun o => match o with | (.inl a) => .inr (by kernel_rfl) | (.inr x) => .inl (by kernel_rfl))
theorem z98 (n gaps : Int) : ∀ (m k : Nat) (q : List Int) (z : Int), q ∈ z2u k → k + m ≤ 6 → (k + 3 + m : Nat) = n → 0 ≤ z → z < 10007 →
  z09 ((n, (gaps, ((), (z, ())))), ((), q)) = some ((gaps, ((), ((mkN m q z).2, ()))), ((), (mkN m q z).1))
 | 0, k, q, z, hq, hk, hn, h1, h2 => by
  obtain ⟨_, g1, _⟩ := zlz k q hq
  simp only [z09, mkN]
  refine zag ?_
  have : ¬ ((q.length : Int) < n) := by omega
  simp [zc2, T.run, this]
 | m + 1, k, q, z, hq, hk, hn, h1, h2 => by
  obtain ⟨g0, g1, g2⟩ := zlz k q hq
  have hr := rI_B z
  have hj : (rI z % (q.length : Int)).toNat < k + 3 := by have := Int.emod_lt_of_pos (rI z) (show (0 : Int) < (q.length : Int) by omega); omega
  have hnn : 0 ≤ rI z % (q.length : Int) := Int.emod_nonneg _ (by omega)
  have st : (zc2 ((n, (gaps, ((), (z, ())))), ((), q))).run = some (.inl ((n, (gaps, ((), (rI z, ())))), ((), zfy q ((rI z % (q.length : Int)).toNat + 1)))) := by
   have c0 : (q.length : Int) < n := by omega
   have c1 : (q.length : Int) ≠ 0 := by omega
   have w0 : Int.tmod (rI z) (q.length : Int) = rI z % (q.length : Int) := Int.tmod_eq_emod_of_nonneg (by omega)
   have w1 : w64 (rI z % (q.length : Int) + 1) = (((rI z % (q.length : Int)).toNat + 1 : Nat) : Int) := by rw [zae (by omega) (by omega)]; omega
   have hg := za6x q ((rI z % (q.length : Int)).toNat + 1) g0 (by omega) (by omega) g2 (by omega) (by omega)
   simp only [zc2, T.run, c0, c1, ne_eq, not_false_eq_true, decide_true, if_true, rI_w h1 h2, w0, qa, Nat.zero_add, qi, zap, w1, hg, and_self]
  by_cases h5 : k < 5
  ·have ih := z98 n gaps m (k + 1) _ (rI z) (zabq k h5 q hq _ hj) (by omega) (by omega) hr.1 hr.2
   simp only [z09, mkN] at ih ⊢
   rw [zah st, ih]
  ·have hm0 : m = 0 := by omega
   subst hm0
   simp only [z09, mkN]
   rw [zah st]
   refine zag ?_
   have hlen : (zfy q ((rI z % (q.length : Int)).toNat + 1)).length = q.length + 1 := by
    have f1 := (zk2 (q := q) (at' := (rI z % (q.length : Int)).toNat + 1) (by omega) (by omega) (by omega) g2).1
    unfold zfy; simp only [qy, f1]
   have : ¬ (((q.length + 1 : Nat) : Int) < n) := by omega
   simp only [zc2, T.run, hlen, this, decide_false]
   simp
theorem zad8 (q : List Int) (g z : Int) (hl : q.length < 1000) : z6z ((g, ((), (z, ((), ((), ((), ((q.length : Int), (0 : Int)))))))), ((), ((), (q, ([] : List Int))))) = some ((g, ((), (z, ((), ())))), ((), ((), (q, pl q)))) := by
 have h := zbm (step := fun v => (zcb v).run) (xs := List.range q.length) (fun k (s : List Int) => s.length ≤ k) (fun k s => ((g, ((), (z, ((), ((), ((), ((q.length : Int), (k : Int)))))))), ((), ((), (q, s))))) (plG q) (fun s => ((g, ((), (z, ((), ())))), ((), ((), (q, s)))))
  (fun k s x hP hx => by
   obtain ⟨hk, e⟩ := qh.1 hx
   simp only [List.getElem_range] at e
   subst e
   rw [List.length_range] at hk
   have g0 := za8 hk
   have c0 : (k : Int) < (q.length : Int) := by omega
   have c1 : (0 : Int) ≤ (k : Int) ∧ (k : Int) < (q.length : Int) := by omega
   have c2 : 2 * ((s.length + 1) * 9) ≤ 140737488355328 := by omega
   have w1 : w64 ((k : Int) + 1) = ((k + 1 : Nat) : Int) := by rw [zae (by omega) (by omega)]; omega
   by_cases hz : q.getD k 0 > 0
   ·have e : plG q s k = s ++ [(k : Int)] := by unfold plG; rw [if_pos hz]
    refine ⟨?_, by rw [e]; simp; omega⟩
    rw [e]
    simp only [zcb, T.run, c0, c1, decide_true, if_true, and_self, qe, Nat.zero_add, g0, qa, hz, zc9, zap, w1, qk, qq, c2, qy, kj, qi, ql]
   ·have e : plG q s k = s := by unfold plG; rw [if_neg hz]
    refine ⟨?_, by rw [e]; omega⟩
    rw [e]
    simp only [zcb, T.run, c0, c1, decide_true, if_true, and_self, qe, Nat.zero_add, g0, qa, hz, decide_false, qj, if_false, w1])
  (fun s hs => by simp [zcb, T.run])
  [] (by simp)
 simp only [ka] at h
 simp only [z6z]
 exact h.1
theorem z97 : ∀ (m : Nat) (q : List Int) (z : Int), q.length < 1000 → m < 1000 → m ≤ (pl q).length → 0 ≤ z → z < 10007 →
  z96 (((m : Int), ((), (z, ()))), ((), ((), q))) = some (((), ()), ((), ((), gapN m q z)))
 | 0, q, z, hl, hm, hp, h1, h2 => by
  simp only [z96, gapN]
  refine zag ?_
  simp [ze7, T.run]
 | m + 1, q, z, hl, hm, hp, h1, h2 => by
  have hr := rI_B z
  obtain ⟨p1, p2, p3, p4⟩ := zats (q := q) (z := z) (by omega)
  obtain ⟨b1, b2, b3⟩ := za58 p4
  have hs := za59 p4
  have ih := z97 m (q.set ((pl q).getD (rI z % ((pl q).length : Int)).toNat 0).toNat 0) (rI z) (by simpa using hl) (by omega) (by omega) hr.1 hr.2
  simp only [z96, gapN] at ih ⊢
  rw [← ih]
  refine zah ?_
  have c0 : ((m + 1 : Nat) : Int) > 0 := by omega
  have w1 : w64 (((m + 1 : Nat) : Int) - 1) = (m : Int) := by rw [zae (by omega) (by omega)]; omega
  have w0 : Int.tmod (rI z) ((pl q).length : Int) = rI z % ((pl q).length : Int) := Int.tmod_eq_emod_of_nonneg (by omega)
  have c1 : 0 ≤ rI z % ((pl q).length : Int) ∧ rI z % ((pl q).length : Int) < ((pl q).length : Int) := ⟨p1, p2⟩
  have c3 : ((pl q).length : Int) ≠ 0 := by omega
  have hpp := za7f q ((pl q).getD (rI z % ((pl q).length : Int)).toNat 0) 0 (by omega) b1 b2
  simp only [ze7, T.run, c0, decide_true, if_true, true_and, qq, zad8 q _ z hl, qa, rI_w h1 h2, w0, c1, c3, ne_eq, not_false_eq_true, and_self, Nat.zero_add, p3, qi, zap, hpp, qy, w1]
theorem zbib (n g s : Int) : F88 (n, (g, s)) = some (((), (mkPz n g s).1), (mkPz n g s).2) := by
 simp only [F88, zbbg, zbbf, T.run, znh, qa, mkPz]
 cases hn : inB 3 9 n with
 | false => simp [zad7]
 | true =>
  cases hg : inB 0 n g with
  | false => simp [zad7]
  | true =>
   cases hs : inB 0 9999 s with
   | false => simp [zad7]
   | true =>
    obtain ⟨m, m1, m2, m3, s1, s2, hq⟩ := zabw n hn s hs
    have hset : List.set (List.set (List.set (List.replicate 3 (0 : Int)) 0 (1 : Int)) 1 (1 : Int)) 2 (1 : Int) = [1, 1, 1] := rfl
    have h5 := z98 n g m 0 [1, 1, 1] s hq (by omega) m3 s1 s2
    obtain ⟨⟨f1, f2⟩, f3, f4⟩ := ztp m 0 [1, 1, 1] s hq (by omega) s1 s2
    rw [zay] at hg hn
    have h8 := z97 g.toNat (mkN m [1, 1, 1] s).1 (mkN m [1, 1, 1] s).2 (by omega) (by omega) (by rw [z7r f2, f1]; omega) f3 f4
    have hown := zia (mkN m [1, 1, 1] s).1 (by omega)
    rw [show ((g.toNat : Nat) : Int) = g by omega] at h8
    simp only [Bool.not_true, qj, if_false, hset, h5, qa] at h8 ⊢
    simp [h8, m1, zad7, zap, hown]
def z9t : FSh := ⟨[(.one (.pf 0 0 0)), (.one (.sl (.int .i64) false false))], [(.rcd 0 [(.sl (.int .u8) false true), (.si .i64), (.si .u64)])]⟩
def z9s : List FO := [⟨[(.one (.si .i64))], [(.rcd 0 [(.sl (.int .u8) false true), (.si .i64), (.si .u64)])]⟩]
def zban : ((Unit × List Int) × (List Int × Int × Int)) → T (Int × (List Int × Int × Int)) := fun (((), list), (c_0, c_1, c_2)) =>(.sub (F86 (((), (list.length : Int)), (c_0, (c_1, c_2)))) fun z0 =>(.test (decide ((0 ≤ z0.1) ∧ (z0.1 < (list.length : Int)))) (.sub (list[(Int.toNat z0.1)]?) fun z1 =>(.ret (z1, (z0.2.1, (z0.2.2.1, z0.2.2.2))))) .fail))
def F75 (v) := (zban v).run
def zbhr : TEnv := (E0.add1 z3o zox zow F86)
theorem zbam : (zbhr).OK := (E0ok.add1 zvi)
def zaxa : Nat → Option zal := fun id => none
theorem za3u : FOK Tryz.prog za1d z9t z9s F75 :=
 zao (E := zbhr) (zbam) (told := zaxa) (fl := []) (c := zac za5n) (s := z9t) (l := z9s) (tree := zban) zaz3 (by kernel_rfl) (by kernel_rfl) (by kernel_rfl) (zab (ls := []) (by kernel_rfl) trivial) (fun v => by kernel_rfl)
def z04 : FSh := ⟨[(.one (.pf 0 0 0))], [(.rcd 0 [(.sl (.int .u8) false true), (.si .i64), (.si .u64)])]⟩
def z03 : List FO := [⟨[(.ag [(.rw 1 0)])], [(.rcd 0 [(.sl (.int .u8) false true), (.si .i64), (.si .u64)]), qr1]⟩]
def zbab : (Unit × (List Int × Int × Int)) → T (Unit × ((List Int × Int × Int) × List Int)) := fun ((), (c_0, c_1, c_2)) =>(.sub (F86 (((), (5 : Int)), (c_0, (c_1, c_2)))) fun z0 =>(.sub (F86 (((), (w64 ((w64 (3 + z0.1)) + 1))), (z0.2.1, (z0.2.2.1, z0.2.2.2)))) fun z1 =>(.sub (F86 (((), (10000 : Int)), (z1.2.1, (z1.2.2.1, z1.2.2.2)))) fun z2 =>(.sub (F88 ((w64 (3 + z0.1)), (z1.1, z2.1))) fun z3 =>(.sub (F86 (((), (14 : Int)), (z2.2.1, (z2.2.2.1, z2.2.2.2)))) fun z4 =>(.test (z4.1 == 0) (.sub (F86 (((), (w64 (3 + z0.1))), (z4.2.1, (z4.2.2.1, z4.2.2.2)))) fun z5 =>(.test (decide (5 ≤ (List.length (List.set (List.set (List.set (List.set (List.set (List.replicate 5 (0 : Int)) 0 (-1)) 1 (w64 ((w64 (3 + z0.1)) - 1))) 2 (0 : Int)) 3 (1 : Int)) 4 (4611686018427387904 : Int))))) (.sub (F75 (((), (win (List.set (List.set (List.set (List.set (List.set (List.replicate 5 (0 : Int)) 0 (-1)) 1 (w64 ((w64 (3 + z0.1)) - 1))) 2 (0 : Int)) 3 (1 : Int)) 4 (4611686018427387904 : Int)) 0 5)), (z5.2.1, (z5.2.2.1, z5.2.2.2)))) fun z6 =>(.test (decide ((0 ≤ z5.1) ∧ (z5.1 < (z3.2.length : Int)))) (.sub (z3.2[(0 + (Int.toNat z5.1))]?) fun z7 =>(.test (decide ((0 = 0) ∧ (z3.2.length = (List.length (List.set z3.2 (0 + (Int.toNat z5.1)) z6.1))))) (.ret ((), ((z6.2.1, (z6.2.2.1, z6.2.2.2)), (List.set z3.2 (0 + (Int.toNat z5.1)) z6.1)))) .fail)) .fail)) .fail)) (.test (z4.1 == 1) (.sub (F86 (((), (w64 (3 + z0.1))), (z4.2.1, (z4.2.2.1, z4.2.2.2)))) fun z8 =>(.sub (F86 (((), (w64 ((w64 (3 + z0.1)) - 2))), (z8.2.1, (z8.2.2.1, z8.2.2.2)))) fun z9 =>(.test (decide ((0 ≤ z8.1) ∧ (z8.1 < (z3.2.length : Int)))) (.sub (z3.2[(0 + (Int.toNat z8.1))]?) fun z10 =>(.test (decide ((0 = 0) ∧ (z3.2.length = (List.length (List.set z3.2 (0 + (Int.toNat z8.1)) (w64 (1 + z9.1))))))) (.ret ((), ((z9.2.1, (z9.2.2.1, z9.2.2.2)), (List.set z3.2 (0 + (Int.toNat z8.1)) (w64 (1 + z9.1)))))) .fail)) .fail))) (.test (z4.1 == 2) (.test (decide ((0 = 0) ∧ (2 = (List.length (List.set (List.set (List.replicate 2 (0 : Int)) 0 (1 : Int)) 1 (1 : Int)))))) (.ret ((), ((z4.2.1, (z4.2.2.1, z4.2.2.2)), (List.set (List.set (List.replicate 2 (0 : Int)) 0 (1 : Int)) 1 (1 : Int))))) .fail) (qz z3.2 (.ret ((), ((z4.2.1, (z4.2.2.1, z4.2.2.2)), z3.2))))))))))))
def F69 (v) := (zbab v).run
def zbhh : TEnv := (((E0.add1 z3o zox zow F86).add1 za1k z99 zanl F88).add1 za1d z9t z9s F75)
theorem zbaa : (zbhh).OK := (((E0ok.add1 zvi).add1 zbic).add1 za3u)
def zaw4 : Nat → Option zal := fun id => none
theorem zal4 : FOK Tryz.prog zath z04 z03 F69 :=
 zao (E := zbhh) (zbaa) (told := zaw4) (fl := []) (c := zac za5l) (s := z04) (l := z03) (tree := zbab) zazx (by kernel_rfl) (by kernel_rfl) (by kernel_rfl) (zab (ls := []) (by kernel_rfl) trivial) (fun v => by kernel_rfl)
def zal9 : FSh := ⟨[(.one (.sl (.int .u8) false true))], []⟩
def zal8 : List FO := [⟨[(.ag [(.rw 0 0)])], [qr1]⟩]
def zbaf : List Int → T (Unit × List Int) := fun code =>(.sub (F69 ((), (code, ((0 : Int), (0 : Int))))) fun z0 =>(qz z0.2.2 (.ret ((), z0.2.2))))
def F70 (v) := (zbaf v).run
def zbhi : TEnv := (E0.add1 zath z04 z03 F69)
theorem zbae : (zbhi).OK := (E0ok.add1 zal4)
def zaw7 : Nat → Option zal := fun id => none
theorem zbhj : FOK Tryz.prog zbd2 zal9 zal8 F70 :=
 zao (E := zbhi) (zbae) (told := zaw7) (fl := []) (c := zac za5m) (s := zal9) (l := zal8) (tree := zbaf) zazy (by kernel_rfl) (by kernel_rfl) (by kernel_rfl) (zab (ls := []) (by kernel_rfl) trivial) (fun v => by kernel_rfl)
def kr (s : Int) : List Int → Int
 | [] => 1
 | [a] => a
 | a :: b :: l => a * kr s (b :: l) + s * kr s l
def kt (s : Int) : List Int → Int
 | [] => 0
 | _ :: l => kr s l
theorem zzi (s a : Int) (l : List Int) : kr s (a :: l) = a * kr s l + s * kt s l := by
 cases l with
 | nil => simp [kr, kt]
 | cons b l => rfl
theorem zk4 (s a : Int) (l : List Int) : kt s (a :: l) = kr s l := rfl
theorem zasg (s : Int) : ∀ (l : List Int) (b o : Int), (l.foldl (cf s) (b, o)).2 = o * kr s l + s * b * kt s l
 | [], b, o => by simp [kr, kt]
 | a :: l, b, o => by
  rw [List.foldl_cons]
  show (l.foldl (cf s) (o, a * o + s * b)).2 = _
  rw [zasg s l, zzi, zk4]
  grind
theorem zbcj (s : Int) (l : List Int) : cont s l = kr s l := by
 unfold cont z1z
 rw [zasg]
 simp
theorem za52 : ∀ l : List Int, (∀ x ∈ l, 2 ≤ x) → kt (-1) l < kr (-1) l ∧ 0 ≤ kt (-1) l
 | [], _ => by simp [kr, kt]
 | a :: l, h => by
  obtain ⟨h1, h2⟩ := za52 l fun x hx => h x (qv _ hx)
  have ha := h a (by simp)
  have hm : 2 * kr (-1) l ≤ a * kr (-1) l := Int.mul_le_mul_of_nonneg_right ha (by omega)
  rw [zzi, zk4]
  omega
structure MinusOf (num den : Int) (l : List Int) : Prop where
 ne : l ≠ []
 k : kr (-1) l = num
 t : kt (-1) l = den
 two : ∀ x ∈ l.tail, 2 ≤ x
 one : ∀ x ∈ l.head?, 1 ≤ x
 far : den < num → ∀ x ∈ l.head?, 2 ≤ x
theorem zbez {num den : Int} (h1 : 1 ≤ den) (h : den < num) : 2 ≤ upQ num den := by
 unfold upQ
 exact Int.le_ediv_of_mul_le (by omega) (by omega)
theorem zbey {num den : Int} (h1 : 1 ≤ den) (h : 1 ≤ num) : 1 ≤ upQ num den := by
 unfold upQ
 exact Int.le_ediv_of_mul_le (by omega) (by omega)
theorem MinusOf.cons {num den : Int} {l : List Int} (h1 : 1 ≤ num) (h2 : 1 ≤ den) (hr : upQ num den * den - num < den) (h : MinusOf den (upQ num den * den - num) l) : MinusOf num den (upQ num den :: l) := by
 refine ⟨by simp, by rw [zzi, h.k, h.t]; omega, by rw [zk4, h.k], fun x hx => ?_, fun x hx => ?_, fun hl x hx => ?_⟩
 ·cases l with
  | nil => exact absurd rfl h.ne
  | cons b l =>
   simp only [List.tail_cons, List.mem_cons] at hx
   rcases hx with rfl | hx
   ·exact h.far hr x rfl
   ·exact h.two x hx
 ·simp at hx; subst hx; exact zbey h2 h1
 ·simp at hx; subst hx; exact zbez h2 hl
structure PlusOf (num den : Int) (l : List Int) : Prop where
 ne : l ≠ []
 k : kr 1 l = num
 t : kt 1 l = den
 pos : den ≤ num → ∀ x ∈ l, 1 ≤ x
 far : den < num → ∀ x ∈ l.getLast?, 2 ≤ x
theorem PlusOf.cons {num den q r : Int} {l : List Int} (h2 : 1 ≤ den) (hr0 : 0 < r) (hr : r < den) (e : q * den + r = num) (h : PlusOf den r l) : PlusOf num den (q :: l) := by
 refine ⟨by simp, by rw [zzi, h.k, h.t]; omega, by rw [zk4, h.k], fun hl x hx => ?_, fun hl x hx => ?_⟩
 ·simp only [List.mem_cons] at hx
  rcases hx with rfl | hx
  ·refine Int.not_lt.1 fun hq => ?_
   have : x * den ≤ 0 * den := Int.mul_le_mul_of_nonneg_right (by omega) (by omega)
   omega
  ·exact h.pos (by omega) x hx
 ·cases l with
  | nil => exact absurd rfl h.ne
  | cons b l =>
   rw [List.getLast?_cons_cons] at hx
   exact h.far hr x hx
end Go.Proofs.W
