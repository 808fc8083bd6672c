import Derived.Test.YtpkbjabnchfgjaaGreatDoorWGt13
noncomputable section
namespace Go.Gm
set_option linter.unusedSimpArgs false
set_option linter.unusedVariables false
theorem T.run_map {α β : Type} (f : α → β) (t : T α) : (t.map f).run = t.run.map f := by
 unfold T.map; rw [T.run_bind]; cases t.run <;> rfl
def decV : (e : ETy) → List Value → Option (den e × List Value)
 | .int k, .int k' z :: r => if k = k' then some (z, r) else none
 | .bool, .bool t :: r => some (t, r)
 | .str, .string s :: r => some (s.data.toList, r)
 | .pair a b, l => match decV a l with
  | some (x, r) => match decV b r with
   | some (y, r') => some ((x, y), r')
   | none => none
  | none => none
 | _, _ => none
def z7c (e : ETy) : Nat → List Value → Option (List (den e))
 | 0, [] => some []
 | 0, _ :: _ => none
 | n + 1, l => match decV e l with
  | some (x, r) => (z7c e n r).map (x :: ·)
  | none => none
def decC : (e : ETy) → List C → Option (den e × List C)
 | .int k, .v (.int k' z) :: r => if k = k' then some (z, r) else none
 | .bool, .v (.bool t) :: r => some (t, r)
 | .str, .v (.string s) :: r => some (s.data.toList, r)
 | .pair a b, l => match decC a l with
  | some (x, r) => match decC b r with
   | some (y, r') => some ((x, y), r')
   | none => none
  | none => none
 | .list lo e, .sl lo' n xs :: r => if lo = lo' then (z7c e n xs).map fun ys => (ys, r) else none
 | _, _ => none
def z2c (e : ETy) : Nat → List C → Option (List (den e))
 | 0, [] => some []
 | 0, _ :: _ => none
 | n + 1, l => match decC e l with
  | some (x, r) => (z2c e n r).map (x :: ·)
  | none => none
theorem zys : ∀ (e : ETy) (x : den e) (r : List Value), e.plain = true → decV e (encV e x ++ r) = some (x, r)
 | .int k, z, r, _ => by simp [encV, decV]
 | .bool, t, r, _ => rfl
 | .str, l, r, _ => rfl
 | .pair a b, x, r, h => by
  simp only [ETy.plain, qo] at h
  simp only [encV, decV, List.append_assoc, zys a x.1 _ h.1, zys b x.2 _ h.2]
 | .list lo e, _, _, h => by simp [ETy.plain] at h
theorem z2e {e : ETy} (h : e.plain = true) : ∀ (xs : List (den e)), z7c e xs.length (xs.flatMap (encV e)) = some xs
 | [] => rfl
 | x :: xs => by simp only [qk, List.flatMap_cons, z7c, zys e x _ h, z2e h xs, Option.map_some]
theorem zp2 : ∀ (e : ETy) (x : den e) (r : List C), e.ok = true → decC e (encC e x ++ r) = some (x, r)
 | .int k, z, r, _ => by simp [encC, decC]
 | .bool, t, r, _ => rfl
 | .str, l, r, _ => rfl
 | .pair a b, x, r, h => by
  simp only [ETy.ok, qo] at h
  simp only [encC, decC, List.append_assoc, zp2 a x.1 _ h.1, zp2 b x.2 _ h.2]
 | .list lo e, xs, r, h => by
  simp only [encC, decC, List.cons_append, qw, if_true, z2e h xs, Option.map_some]
theorem zs0 {e : ETy} (h : e.ok = true) : ∀ (xs : List (den e)), z2c e xs.length (xs.flatMap (encC e)) = some xs
 | [] => rfl
 | x :: xs => by simp only [qk, List.flatMap_cons, z2c, zp2 e x _ h, zs0 h xs, Option.map_some]
theorem zyt : ∀ {e : ETy} {l r : List Value} {x : den e}, decV e l = some (x, r) → l = encV e x ++ r
 | .int k, l, r, x, h => by
  cases l with
  | nil => simp [decV] at h
  | cons y l =>
   cases y <;> try (simp [decV] at h; done)
   simp only [decV] at h
   split at h
   ·rename_i hk; cases h; subst hk; rfl
   ·cases h
 | .bool, l, r, x, h => by
  cases l with
  | nil => simp [decV] at h
  | cons y l => cases y <;> simp [decV] at h; (obtain ⟨rfl, rfl⟩ := h; rfl)
 | .str, l, r, x, h => by
  cases l with
  | nil => simp [decV] at h
  | cons y l => cases y <;> simp [decV] at h; (obtain ⟨rfl, rfl⟩ := h; rfl)
 | .pair a b, l, r, x, h => by
  simp only [decV] at h
  split at h
  ·rename_i x1 r1 h1
   split at h
   ·rename_i x2 r2 h2
    cases h
    rw [zyt h1, zyt h2]
    simp [encV]
   ·cases h
  ·cases h
 | .list lo e, l, r, x, h => by simp [decV] at h
theorem z2f {e : ETy} : ∀ {n : Nat} {l : List Value} {xs : List (den e)}, z7c e n l = some xs → l = xs.flatMap (encV e) ∧ n = xs.length
 | 0, [], xs, h => by simp only [z7c, qc] at h; subst h; exact ⟨rfl, rfl⟩
 | 0, _ :: _, xs, h => by cases h
 | n + 1, l, xs, h => by
  simp only [z7c] at h
  split at h
  ·rename_i x r hx
   obtain ⟨ys, hy, rfl⟩ := qf.1 h
   obtain ⟨h1, h2⟩ := z2f hy
   exact ⟨by rw [zyt hx, h1]; rfl, by rw [h2]; rfl⟩
  ·cases h
theorem zp3 : ∀ {e : ETy} {l r : List C} {x : den e}, decC e l = some (x, r) → l = encC e x ++ r
 | .int k, l, r, x, h => by
  cases l with
  | nil => simp [decC] at h
  | cons y l =>
   cases y with
   | sl n xs => simp [decC] at h
   | v y =>
    cases y <;> try (simp [decC] at h; done)
    simp only [decC] at h
    split at h
    ·rename_i hk; cases h; subst hk; rfl
    ·cases h
 | .bool, l, r, x, h => by
  cases l with
  | nil => simp [decC] at h
  | cons y l =>
   cases y with
   | sl n xs => simp [decC] at h
   | v y => cases y <;> simp [decC] at h; (obtain ⟨rfl, rfl⟩ := h; rfl)
 | .str, l, r, x, h => by
  cases l with
  | nil => simp [decC] at h
  | cons y l =>
   cases y with
   | sl n xs => simp [decC] at h
   | v y => cases y <;> simp [decC] at h; (obtain ⟨rfl, rfl⟩ := h; rfl)
 | .pair a b, l, r, x, h => by
  simp only [decC] at h
  split at h
  ·rename_i x1 r1 h1
   split at h
   ·rename_i x2 r2 h2
    cases h
    rw [zp3 h1, zp3 h2]
    simp [encC]
   ·cases h
  ·cases h
 | .list lo e, l, r, x, h => by
  cases l with
  | nil => simp [decC] at h
  | cons y l =>
   cases y with
   | v y => simp [decC] at h
   | sl lo' n xs =>
    simp only [decC] at h
    split at h
    ·rename_i hlo
     subst hlo
     obtain ⟨ys, hy, he⟩ := qf.1 h
     cases he
     obtain ⟨h1, h2⟩ := z2f hy
     rw [h1, h2]; rfl
    ·cases h
theorem zs1 {e : ETy} : ∀ {n : Nat} {l : List C} {xs : List (den e)}, z2c e n l = some xs → l = xs.flatMap (encC e) ∧ n = xs.length
 | 0, [], xs, h => by simp only [z2c, qc] at h; subst h; exact ⟨rfl, rfl⟩
 | 0, _ :: _, xs, h => by cases h
 | n + 1, l, xs, h => by
  simp only [z2c] at h
  split at h
  ·rename_i x r hx
   obtain ⟨ys, hy, rfl⟩ := qf.1 h
   obtain ⟨h1, h2⟩ := zs1 hy
   exact ⟨by rw [zp3 hx, h1]; rfl, by rw [h2]; rfl⟩
  ·cases h
def zgk (e : ETy) (l : List B) : Option (den e × List B) :=
 match e, l with
 | .int k, .v (.int k' z) :: r => if k = k' then some (z, r) else none
 | .bool, .v (.bool t) :: r => some (t, r)
 | .str, .v (.string s) :: r => some (s.data.toList, r)
 | .list lo e, .ro n cs false lo' :: r => if lo = lo' then (z2c e n cs).map fun ys => (ys, r) else none
 | .pair a b, l => match zgk a l with
  | some (x, r) => match zgk b r with
   | some (y, r') => some ((x, y), r')
   | none => none
  | none => none
 | _, _ => none
def zyp (e : ETy) : Nat → List B → Option (List (den e))
 | 0, [] => some []
 | 0, _ :: _ => none
 | n + 1, [] => none
 | n + 1, l => match zgk e l with
  | some (x, r) => (zyp e n r).map (x :: ·)
  | none => none
theorem ETy.ok_of_plain : ∀ {e : ETy}, e.plain = true → e.ok = true
 | .int _, _ => rfl
 | .bool, _ => rfl
 | .str, _ => rfl
 | .pair a b, h => by
  simp only [ETy.plain, qo] at h
  simp only [ETy.ok, ok_of_plain h.1, ok_of_plain h.2, Bool.and_self]
 | .list lo e, h => by cases h
theorem zsy : ∀ (e : ETy) (x : den e) (r : List B), e.ok = true → zgk e (encB e x ++ r) = some (x, r)
 | .int k, z, r, _ => by simp [encB, zgk]
 | .bool, t, r, _ => rfl
 | .str, l, r, _ => rfl
 | .pair a b, x, r, h => by
  simp only [ETy.ok, qo] at h
  simp only [encB, List.append_assoc]
  unfold zgk
  simp only [zsy a x.1 _ h.1, zsy b x.2 _ h.2]
 | .list lo e, xs, r, h => by
  simp only [encB, zgk, List.cons_append, qw, if_true, zs0 (ETy.ok_of_plain h) xs, Option.map_some]
theorem zsz : ∀ {e : ETy} {l r : List B} {x : den e}, zgk e l = some (x, r) → l = encB e x ++ r
 | .int k, l, r, x, h => by
  cases l with
  | nil => simp [zgk] at h
  | cons y l =>
   cases y with
   | v y =>
    cases y <;> try (simp [zgk] at h; done)
    simp only [zgk] at h
    split at h
    ·rename_i hk; cases h; subst hk; rfl
    ·cases h
   | _ => simp [zgk] at h
 | .bool, l, r, x, h => by
  cases l with
  | nil => simp [zgk] at h
  | cons y l =>
   cases y with
   | v y => cases y <;> simp [zgk] at h; (obtain ⟨rfl, rfl⟩ := h; rfl)
   | _ => simp [zgk] at h
 | .str, l, r, x, h => by
  cases l with
  | nil => simp [zgk] at h
  | cons y l =>
   cases y with
   | v y => cases y <;> simp [zgk] at h; (obtain ⟨rfl, rfl⟩ := h; rfl)
   | _ => simp [zgk] at h
 | .pair a b, l, r, x, h => by
  unfold zgk at h
  split at h
  ·rename_i x1 r1 h1
   split at h
   ·rename_i x2 r2 h2
    cases h
    rw [zsz h1, zsz h2]
    simp [encB]
   ·cases h
  ·cases h
 | .list lo e, l, r, x, h => by
  cases l with
  | nil => simp [zgk] at h
  | cons y l =>
   cases y with
   | ro n cs ex lo' =>
    cases ex <;> simp only [zgk] at h <;> try (cases h; done)
    split at h
    ·rename_i hlo
     subst hlo
     obtain ⟨ys, hy, he⟩ := qf.1 h
     cases he
     obtain ⟨h1, h2⟩ := zs1 hy
     rw [h1, h2]; rfl
    ·cases h
   | _ => simp [zgk] at h
theorem zbcl {e : ETy} : ∀ (x : den e), encB e x ≠ [] := by
 induction e with
 | pair a b iha ihb => intro x h; simp only [encB, List.append_eq_nil_iff] at h; exact iha _ h.1
 | _ => intro x h; cases h
theorem zael {e : ETy} {n : Nat} {l : List B} (h : l ≠ []) : zyp e (n + 1) l = match zgk e l with
  | some (x, r) => (zyp e n r).map (x :: ·)
  | none => none := by
 cases l with
 | nil => exact absurd rfl h
 | cons y l => rfl
theorem z2a {e : ETy} (h : e.ok = true) : ∀ (xs : List (den e)), zyp e xs.length (xs.flatMap (encB e)) = some xs
 | [] => rfl
 | x :: xs => by
  simp only [qk, List.flatMap_cons]
  rw [zael (by simp [zbcl])]
  simp only [zsy e x _ h, z2a h xs, Option.map_some]
theorem z2b {e : ETy} : ∀ {n : Nat} {l : List B} {xs : List (den e)}, zyp e n l = some xs → l = xs.flatMap (encB e) ∧ n = xs.length
 | 0, [], xs, h => by simp only [zyp, qc] at h; subst h; exact ⟨rfl, rfl⟩
 | 0, _ :: _, xs, h => by cases h
 | n + 1, [], xs, h => by cases h
 | n + 1, y :: l, xs, h => by
  simp only [zyp] at h
  split at h
  ·rename_i x r hx
   obtain ⟨ys, hy, rfl⟩ := qf.1 h
   obtain ⟨h1, h2⟩ := z2b hy
   exact ⟨by rw [zsz hx, h1]; rfl, by rw [h2]; rfl⟩
  ·cases h
abbrev Kc := List Nat → List Bool
inductive Sh where
 | si (k : IntKind)
 | sb
 | ss
 | sl (e : ETy) (ex lo : Bool)
 | nl (ex lo : Bool)
 | rf (r g : Nat)
 | rw (r g : Nat)
 | pf (r g fo : Nat)
 | fn (f : FuncId)
 | clo (f : FuncId) (ps : List (Nat × Nat × Nat))
 | nf
 | pb (e : ETy)
abbrev Sh.den : Sh → Type
 | .si _ => Int
 | .sb => Bool
 | .ss => List UInt8
 | .sl e _ _ => List (Go.Gm.den e)
 | .nl _ _ => Unit
 | .rf _ _ => Nat × Nat
 | .rw _ _ => Unit
 | .pf _ _ _ => Unit
 | .fn _ => Unit
 | .clo _ _ => Unit
 | .nf => Unit
 | .pb e => Go.Gm.den e
def zash : List Nat → Nat → Nat
 | [], _ => 0
 | n :: _, 0 => n
 | _ :: t, k + 1 => zash t k
def Sh.enc (ls : List Nat) : (h : Sh) → h.den → TB
 | .si k, z => .int k z
 | .sb, t => .bool t
 | .ss, l => .str l
 | .sl e ex lo, xs => .ro e xs ex lo
 | .nl ex lo, _ => .ro .bool [] ex lo
 | .rf r g, p => .rf r g p.1 p.2
 | .rw r g, _ => .rf r g 0 (zash ls r)
 | .pf r g fo, _ => .pf r g fo
 | .fn f, _ => .fn f
 | .clo f ps, _ => .clo f ps
 | .nf, _ => .nf
 | .pb e, x => .pr e [x] 0 0 false
def noC : Kc := fun _ => []
def Sh.decT : (h : Sh) → TB → Option (Kc × h.den)
 | .si k, .int k' z => if k = k' then some (noC, z) else none
 | .sb, .bool t => some (noC, t)
 | .sb, .bl t => some (noC, t)
 | .ss, .str l => some (noC, l)
 | .sl e ex lo, .ro e' xs ex' lo' => if e.ok && ((!ex || ex') && (!lo || lo')) then match zdg e' e xs with
  | some ys => some (noC, ys)
  | none => none else none
 | .nl ex lo, .ro _ xs ex' lo' => if (!ex || ex') && (!lo || lo') then match xs with
  | [] => some (noC, ())
  | _ :: _ => none else none
 | .rf r g, .rf r' g' off len => if r = r' ∧ g = g' then some (noC, (off, len)) else none
 | .rw r g, .rf r' g' off len => if r = r' ∧ g = g' then some (fun ls => [decide (off = 0 ∧ len = zash ls r)], ()) else none
 | .pf r g fo, .pf r' g' fo' => if r = r' ∧ g = g' ∧ fo = fo' then some (noC, ()) else none
 | .fn f, .fn f' => if f = f' then some (noC, ()) else none
 | .clo f ps, .clo f' ps' => if f = f' ∧ ps = ps' then some (noC, ()) else none
 | .nf, .nf => some (noC, ())
 | .pb e, .pr e' xs i fo _ => if e.ok ∧ i = 0 ∧ fo = 0 then match zdg e' e xs with
  | some [x] => some (noC, x)
  | _ => none else none
 | _, _ => none
def Sh.decR : (h : Sh) → B → Option (Kc × h.den)
 | .si k, .v (.int k' z) => if k = k' then some (noC, z) else none
 | .sb, .v (.bool t) => some (noC, t)
 | .ss, .v (.string s) => some (noC, s.data.toList)
 | .sl e ex lo, .ro n cs ex' lo' => if (!ex || ex') && (!lo || lo') then match z2c e n cs with
  | some ys => some (noC, ys)
  | none => none else none
 | .nl ex lo, .ro n cs ex' lo' => if (!ex || ex') && (!lo || lo') then match n, cs with
  | 0, [] => some (noC, ())
  | _, _ => none else none
 | .rf r g, .rf r' g' off len => if r = r' ∧ g = g' then some (noC, (off, len)) else none
 | .rw r g, .rf r' g' off len => if r = r' ∧ g = g' then some (fun ls => [decide (off = 0 ∧ len = zash ls r)], ()) else none
 | .pf r g fo, .pt r' g' fo' => if r = r' ∧ g = g' ∧ fo = fo' then some (noC, ()) else none
 | .fn f, .v (.func (.func f') first caps) => if f = f' ∧ first.size = 0 ∧ caps.size = 0 then some (noC, ()) else none
 | .clo f ps, .clo f' ps' => if f = f' ∧ ps = ps' then some (noC, ()) else none
 | .nf, .v .nilFunc => some (noC, ())
 | .pb e, .pr cs _ => match decC e cs with
  | some (x, []) => some (noC, x)
  | _ => none
 | _, _ => none
theorem Sh.dec_raw {h : Sh} {x : TB} {v : Kc × h.den} (hx : h.decT x = some v) : h.decR x.raw = some v := by
 cases h with
 | si k => cases x <;> simp [Sh.decT] at hx; simp [Sh.decR, TB.raw, hx]
 | sb => cases x <;> simp [Sh.decT] at hx <;> simp [Sh.decR, TB.raw, hx]
 | ss => cases x <;> simp [Sh.decT] at hx; simp [Sh.decR, TB.raw, hx]
 | sl e ex lo =>
  cases x <;> try (simp [Sh.decT] at hx; done)
  rename_i e' xs ex' lo'
  simp only [Sh.decT] at hx
  split at hx
  ·rename_i hc
   split at hx
   ·rename_i ys hys
    cases hx
    rw [qo] at hc
    obtain ⟨h1, _, h3⟩ := zek hys
    simp only [TB.raw, Sh.decR]
    rw [if_pos hc.2, h1, h3, zs0 hc.1]
   ·cases hx
  ·cases hx
 | nl ex lo =>
  cases x <;> try (simp [Sh.decT] at hx; done)
  rename_i e' xs ex' lo'
  simp only [Sh.decT] at hx
  split at hx
  ·rename_i hc
   cases xs with
   | nil =>
    cases hx
    simp only [TB.raw, Sh.decR]
    rw [if_pos hc]
    rfl
   | cons y t => cases hx
  ·cases hx
 | rf r g =>
  cases x <;> try (simp [Sh.decT] at hx; done)
  simp only [Sh.decT] at hx
  split at hx
  ·rename_i hc; cases hx; simp only [TB.raw, Sh.decR]; rw [if_pos hc]
  ·cases hx
 | rw r g =>
  cases x <;> try (simp [Sh.decT] at hx; done)
  simp only [Sh.decT] at hx
  split at hx
  ·rename_i hc; cases hx; simp only [TB.raw, Sh.decR]; rw [if_pos hc]
  ·cases hx
 | pf r g fo =>
  cases x <;> try (simp [Sh.decT] at hx; done)
  simp only [Sh.decT] at hx
  split at hx
  ·rename_i hc; cases hx; simp only [TB.raw, Sh.decR]; rw [if_pos hc]
  ·cases hx
 | fn f =>
  cases x <;> try (simp [Sh.decT] at hx; done)
  simp only [Sh.decT] at hx
  split at hx
  ·rename_i hc; cases hx; simp only [TB.raw, Sh.decR]; rw [if_pos ⟨hc, rfl, rfl⟩]
  ·cases hx
 | clo f ps =>
  cases x <;> try (simp [Sh.decT] at hx; done)
  simp only [Sh.decT] at hx
  split at hx
  ·rename_i hc; cases hx; simp only [TB.raw, Sh.decR]; rw [if_pos hc]
  ·cases hx
 | nf => cases x <;> simp [Sh.decT] at hx; simp [Sh.decR, TB.raw, hx]
 | pb e =>
  cases x <;> try (simp [Sh.decT] at hx; done)
  rename_i e' xs i fo lo
  simp only [Sh.decT] at hx
  split at hx
  ·rename_i hc
   obtain ⟨hok, rfl, rfl⟩ := hc
   split at hx
   ·rename_i z hz
    cases hx
    obtain ⟨_, _, h3⟩ := zek hz
    have hd := zp2 e z [] hok
    rw [kq] at hd
    have h3' : (xs.flatMap (encC e')).drop (0 * sz e' + 0) = encC e z := by
     rw [h3]; simp
    simp only [TB.raw, Sh.decR, h3', hd]
   ·cases hx
  ·cases hx
def allC (l : List Bool) : Prop := ∀ c ∈ l, c = true
theorem zhh {a b : List Bool} (h : allC (a ++ b)) : allC a ∧ allC b := ⟨fun c hc => h c (List.mem_append_left _ hc), fun c hc => h c (List.mem_append_right _ hc)⟩
theorem Sh.weak {ls : List Nat} {h : Sh} {x : B} {c : Kc} {v : h.den} {w : World} {ρ : Rho} {R : Tab} {y : Value} (hx : h.decR x = some (c, v)) (hC : allC (c ls)) (hr : RB w ρ R x y) : RB w ρ R (h.enc ls v).raw y := by
 cases h with
 | si k =>
  cases x with
  | v x =>
   cases x <;> simp [Sh.decR] at hx
   obtain ⟨rfl, _, rfl⟩ := hx
   exact hr
  | _ => simp [Sh.decR] at hx
 | sb =>
  cases x with
  | v x =>
   cases x <;> simp [Sh.decR] at hx
   obtain ⟨_, rfl⟩ := hx
   exact hr
  | _ => simp [Sh.decR] at hx
 | ss =>
  cases x with
  | v x =>
   cases x <;> simp [Sh.decR] at hx
   obtain ⟨_, rfl⟩ := hx
   exact hr
  | _ => simp [Sh.decR] at hx
 | sl e ex lo =>
  cases x with
  | ro n cs ex' lo' =>
   simp only [Sh.decR] at hx
   split at hx
   ·rename_i hc
    split at hx
    ·rename_i ys hys
     simp only [qc, qr] at hx
     obtain ⟨_, rfl⟩ := hx
     rw [qo] at hc
     obtain ⟨h1, h2⟩ := zs1 hys
     obtain ⟨a, cap, e1, hn, hex, hcs⟩ := hr
     show RB w ρ R (.ro ys.length (ys.flatMap (encC e)) ex lo) y
     rw [← h1, ← h2]
     refine ⟨a, cap, e1, hn, (fun h => hex ?_), hcs.imp id fun ⟨ad, ha, hs, hrd⟩ => ⟨ad, ha, ⟨hs.1, fun hl => hs.2 ?_⟩, hrd⟩⟩
     ·subst h; simpa using hc.1
     ·subst hl; simpa using hc.2
    ·cases hx
   ·cases hx
  | _ => simp [Sh.decR] at hx
 | nl ex lo =>
  cases x with
  | ro n cs ex' lo' =>
   simp only [Sh.decR] at hx
   split at hx
   ·rename_i hc
    split at hx
    ·simp only [qc, qr] at hx
     rw [qo] at hc
     obtain ⟨a, cap, e1, hn, hex, hcs⟩ := hr
     show RB w ρ R (.ro 0 [] ex lo) y
     refine ⟨a, cap, e1, hn, (fun h => hex ?_), hcs.imp id fun ⟨ad, ha, hs, hrd⟩ => ⟨ad, ha, ⟨hs.1, fun hl => hs.2 ?_⟩, hrd⟩⟩
     ·subst h; simpa using hc.1
     ·subst hl; simpa using hc.2
    ·cases hx
   ·cases hx
  | _ => simp [Sh.decR] at hx
 | rf r g =>
  cases x with
  | rf r' g' off len =>
   simp only [Sh.decR] at hx
   split at hx
   ·rename_i hc
    obtain ⟨rfl, rfl⟩ := hc
    cases hx
    exact hr
   ·cases hx
  | _ => simp [Sh.decR] at hx
 | rw r g =>
  cases x with
  | rf r' g' off len =>
   simp only [Sh.decR] at hx
   split at hx
   ·rename_i hc
    obtain ⟨rfl, rfl⟩ := hc
    simp only [qc, qr] at hx
    obtain ⟨rfl, _⟩ := hx
    have h1 := hC (decide (off = 0 ∧ len = zash ls r)) (by simp)
    simp only [kf] at h1
    obtain ⟨rfl, rfl⟩ := h1
    exact hr
   ·cases hx
  | _ => simp [Sh.decR] at hx
 | pf r g fo =>
  cases x with
  | pt r' g' fo' =>
   simp only [Sh.decR] at hx
   split at hx
   ·rename_i hc
    obtain ⟨rfl, rfl, rfl⟩ := hc
    exact hr
   ·cases hx
  | _ => simp [Sh.decR] at hx
 | fn f =>
  cases x with
  | v x =>
   cases x <;> try (simp [Sh.decR] at hx; done)
   rename_i t first caps
   cases t <;> try (simp [Sh.decR] at hx; done)
   simp only [Sh.decR] at hx
   split at hx
   ·rename_i hc
    obtain ⟨rfl, h1, h2⟩ := hc
    have e1 : first = #[] := kv h1
    have e2 : caps = #[] := kv h2
    subst e1 e2
    exact hr
   ·cases hx
  | _ => simp [Sh.decR] at hx
 | clo f ps =>
  cases x with
  | clo f' ps' =>
   simp only [Sh.decR] at hx
   split at hx
   ·rename_i hc
    obtain ⟨rfl, rfl⟩ := hc
    exact hr
   ·cases hx
  | _ => simp [Sh.decR] at hx
 | nf =>
  cases x with
  | v x =>
   cases x <;> simp [Sh.decR] at hx
   exact hr
  | _ => simp [Sh.decR] at hx
 | pb e =>
  cases x with
  | pr cs lo =>
   simp only [Sh.decR] at hx
   split at hx
   ·rename_i z hz
    cases hx
    obtain ⟨ad, hy, hs, hrd⟩ := hr
    have hcs := zp3 hz
    rw [kq] at hcs
    show RB w ρ R (.pr (([v].flatMap (encC e)).drop (0 * sz e + 0)) false) y
    have : ([v].flatMap (encC e)).drop (0 * sz e + 0) = cs := by rw [hcs]; simp
    rw [this]
    exact ⟨ad, hy, ⟨hs.1, fun h => by cases h⟩, hrd⟩
   ·cases hx
  | _ => simp [Sh.decR] at hx
section tup
variable {ι : Type} {den : ι → Type} {X Y : Type}
abbrev Tup (den : ι → Type) : List ι → Type
 | [] => Unit
 | [a] => den a
 | a :: b :: t => den a × Tup den (b :: t)
def zbk (enc : (a : ι) → den a → X) : (l : List ι) → Tup den l → List X
 | [], _ => []
 | [a], v => [enc a v]
 | a :: b :: t, v => enc a v.1 :: zbk enc (b :: t) v.2
def za2 (dec : (a : ι) → X → Option (Kc × den a)) : (l : List ι) → List X → Option (Kc × Tup den l)
 | [], [] => some (noC, ())
 | [a], [x] => dec a x
 | a :: b :: t, x :: xs => match dec a x, za2 dec (b :: t) xs with
  | some p, some q => some (fun ls => p.1 ls ++ q.1 ls, (p.2, q.2))
  | _, _ => none
 | _, _ => none
theorem znx (enc : (a : ι) → den a → X) : ∀ (l : List ι) (v : Tup den l), (zbk enc l v).length = l.length
 | [], _ => rfl
 | [a], v => rfl
 | a :: b :: t, v => by simp only [zbk, qk, znx enc (b :: t)]
theorem zec {dec : (a : ι) → X → Option (Kc × den a)} {dec' : (a : ι) → Y → Option (Kc × den a)} {f : X → Y} (h : ∀ a x v, dec a x = some v → dec' a (f x) = some v) :
  ∀ {l : List ι} {xs : List X} {v : Kc × Tup den l}, za2 dec l xs = some v → za2 dec' l (xs.map f) = some v
 | [], [], v, hx => hx
 | [], _ :: _, v, hx => by cases hx
 | [a], [], v, hx => by cases hx
 | [a], [x], v, hx => h a x v hx
 | [a], _ :: _ :: _, v, hx => by cases hx
 | a :: b :: t, [], v, hx => by cases hx
 | a :: b :: t, x :: xs, v, hx => by
  simp only [za2] at hx
  split at hx
  ·rename_i p q h1 h2
   cases hx
   simp only [qu, za2, h a x p h1, zec (f := f) h h2]
  ·cases hx
def RL (rel : X → Y → Prop) (xs : List X) (ys : List Y) : Prop := xs.length = ys.length ∧ ∀ (i : Nat) x y, xs[i]? = some x → ys[i]? = some y → rel x y
theorem RL.tail {rel : X → Y → Prop} {x : X} {xs : List X} {ys : List Y} (h : RL rel (x :: xs) ys) : ∃ y ys', ys = y :: ys' ∧ rel x y ∧ RL rel xs ys' := by
 obtain ⟨hl, hx⟩ := h
 cases ys with
 | nil => simp at hl
 | cons y ys => exact ⟨y, ys, rfl, hx 0 x y rfl rfl, by simpa using hl, fun i a b ha hb => hx (i + 1) a b (by simpa using ha) (by simpa using hb)⟩
theorem RL.nil {rel : X → Y → Prop} {ys : List Y} (h : RL rel [] ys) : ys = [] := by
 cases ys with
 | nil => rfl
 | cons y ys => have := h.1; simp at this
theorem RL.cons {rel : X → Y → Prop} {x : X} {xs : List X} {y : Y} {ys : List Y} (h : rel x y) (hs : RL rel xs ys) : RL rel (x :: xs) (y :: ys) := by
 refine ⟨by simp [hs.1], fun i a b ha hb => ?_⟩
 cases i with
 | zero => simp only [kk, qc] at ha hb; subst ha hb; exact h
 | succ i => exact hs.2 i a b (by simpa using ha) (by simpa using hb)
theorem RL.self {rel : X → X → Prop} (h : ∀ x, rel x x) : ∀ (xs : List X), RL rel xs xs := fun xs => ⟨rfl, fun i x y hx hy => by rw [hx] at hy; cases hy; exact h x⟩
theorem zed {ls : List Nat} {dec : (a : ι) → X → Option (Kc × den a)} {enc : (a : ι) → den a → X} {rel : X → Y → Prop} (h : ∀ a x c v y, dec a x = some (c, v) → allC (c ls) → rel x y → rel (enc a v) y) :
  ∀ {l : List ι} {xs : List X} {c : Kc} {v : Tup den l} {ys : List Y}, za2 dec l xs = some (c, v) → allC (c ls) → RL rel xs ys → RL rel (zbk enc l v) ys
 | [], [], c, v, ys, hx, hc, hr => hr
 | [], _ :: _, c, v, ys, hx, hc, hr => by cases hx
 | [a], [], c, v, ys, hx, hc, hr => by cases hx
 | [a], [x], c, v, ys, hx, hc, hr => by
  obtain ⟨y, ys', rfl, h0, hs⟩ := hr.tail
  exact RL.cons (h a x c v y hx hc h0) hs
 | [a], _ :: _ :: _, c, v, ys, hx, hc, hr => by cases hx
 | a :: b :: t, [], c, v, ys, hx, hc, hr => by cases hx
 | a :: b :: t, x :: xs, c, v, ys, hx, hc, hr => by
  obtain ⟨y, ys', rfl, h0, hs⟩ := hr.tail
  simp only [za2] at hx
  split at hx
  ·rename_i p q h1 h2
   simp only [qc, qr] at hx
   obtain ⟨rfl, rfl⟩ := hx
   obtain ⟨c1, c2⟩ := zhh hc
   exact RL.cons (h a x p.1 p.2 y h1 c1 h0) (zed h h2 c2 hs)
  ·cases hx
theorem znv {dec : (a : ι) → X → Option (Kc × den a)} : ∀ {l : List ι} {xs : List X} {v : Kc × Tup den l}, za2 dec l xs = some v → xs.length = l.length
 | [], [], v, hx => rfl
 | [], _ :: _, v, hx => by cases hx
 | [a], [], v, hx => by cases hx
 | [a], [x], v, hx => rfl
 | [a], _ :: _ :: _, v, hx => by cases hx
 | a :: b :: t, [], v, hx => by cases hx
 | a :: b :: t, x :: xs, v, hx => by
  simp only [za2] at hx
  split at hx
  ·rename_i p q h1 h2
   simp only [qk, znv h2]
  ·cases hx
theorem zee (f : X → Y) (enc : (a : ι) → den a → X) : ∀ (l : List ι) (v : Tup den l), (zbk enc l v).map f = zbk (fun a v => f (enc a v)) l v
 | [], _ => rfl
 | [a], v => rfl
 | a :: b :: t, v => by simp only [zbk, qu, zee f enc (b :: t)]
abbrev SumD (den : ι → Type) : List ι → Type
 | [] => Empty
 | [a] => den a
 | a :: b :: t => den a ⊕ SumD den (b :: t)
def outS (f : (a : ι) → den a → X) : (l : List ι) → SumD den l → X
 | [], e => nomatch e
 | [a], v => f a v
 | a :: b :: t, v => match v with
  | .inl x => f a x
  | .inr y => outS f (b :: t) y
def csS (f : (a : ι) → den a → X) : (l : List ι) → SumD den l → T X
 | [], _ => .fail
 | [a], v => .ret (f a v)
 | a :: b :: t, v => .test v.isLeft (.sub v.getLeft? fun x => .ret (f a x)) (.sub v.getRight? fun y => csS f (b :: t) y)
theorem zym (f : (a : ι) → den a → X) : ∀ (l : List ι) (o : SumD den l) (x : X), (csS f l o).run = some x → x = outS f l o
 | [], o, x, h => by cases h
 | [a], o, x, h => by simp only [csS, T.run, qc] at h; exact h.symm
 | a :: b :: t, o, x, h => by
  simp only [csS, T.run] at h
  cases o with
  | inl z =>
   simp at h
   rw [← h]; rfl
  | inr z => simp at h; exact zym f (b :: t) z x h
end tup
def zz9 {α : Type} : List Bool → T α → T α
 | [], k => k
 | c :: cs, k => .test c (zz9 cs k) .fail
theorem zgu {α : Type} : ∀ {cs : List Bool} {k : T α} {x : α}, (zz9 cs k).run = some x → allC cs ∧ k.run = some x
 | [], k, x, h => ⟨(fun c hc => by cases hc), h⟩
 | c :: cs, k, x, h => by
  simp only [zz9, T.run] at h
  split at h
  ·rename_i hc
   obtain ⟨h1, h2⟩ := zgu h
   refine ⟨fun d hd => ?_, h2⟩
   rcases List.mem_cons.1 hd with rfl | hd
   ·exact hc
   ·exact h1 d hd
  ·cases h
abbrev denL : List Sh → Type := Tup Sh.den
def encL (ls : List Nat) (l : List Sh) (v : denL l) : List TB := zbk (Sh.enc ls) l v
theorem z2d {ls : List Nat} {w : World} {ρ : Rho} {R : Tab} {l : List Sh} {xs : List B} {c : Kc} {v : denL l} {ys : List Value} (h : za2 Sh.decR l xs = some (c, v)) (hc : allC (c ls)) (hr : RBs w ρ R xs ys) : RBs w ρ R ((encL ls l v).map TB.raw) ys := by
 unfold encL
 rw [zee]
 exact zed (rel := RB w ρ R) (enc := fun a v => (Sh.enc ls a v).raw) (fun a x c v y hd hc hy => Sh.weak hd hc hy) h hc hr
inductive CSh where
 | one (h : Sh)
 | ag (l : List Sh)
abbrev CSh.den : CSh → Type
 | .one h => h.den
 | .ag l => denL l
def CSh.enc (ls : List Nat) : (a : CSh) → a.den → TG
 | .one h, v => .b (h.enc ls v)
 | .ag l, v => .ag (encL ls l v)
def CSh.decT : (a : CSh) → TG → Option (Kc × a.den)
 | .one h, .b x => h.decT x
 | .ag l, .ag xs => za2 Sh.decT l xs
 | _, _ => none
def CSh.decR : (a : CSh) → G → Option (Kc × a.den)
 | .one h, .b x => h.decR x
 | .ag l, .ag xs => za2 Sh.decR l xs
 | _, _ => none
theorem CSh.dec_raw {a : CSh} {x : TG} {v : Kc × a.den} (h : a.decT x = some v) : a.decR x.raw = some v := by
 cases a <;> cases x <;> try (cases h; done)
 ·exact Sh.dec_raw h
 ·exact zec (f := TB.raw) (fun a x v hd => Sh.dec_raw hd) h
theorem CSh.weak {ls : List Nat} {a : CSh} {x : G} {c : Kc} {v : a.den} {w : World} {ρ : Rho} {R : Tab} {y : Value} (h : a.decR x = some (c, v)) (hc : allC (c ls)) (hr : RG w ρ R x y) : RG w ρ R (a.enc ls v).raw y := by
 cases a <;> cases x <;> try (cases h; done)
 ·exact Sh.weak h hc (show RB w ρ R _ y from hr)
 ·obtain ⟨us, rfl, hz⟩ := hr
  exact ⟨us, rfl, z2d h hc hz⟩
abbrev denC : List CSh → Type := Tup CSh.den
def zayd (ls : List Nat) (l : List CSh) (v : denC l) : List TG := zbk (CSh.enc ls) l v
theorem zvu {ls : List Nat} {w : World} {ρ : Rho} {R : Tab} {l : List CSh} {xs : List G} {c : Kc} {v : denC l} {ys : List Value} (h : za2 CSh.decR l xs = some (c, v)) (hc : allC (c ls)) (hr : RGs w ρ R xs ys) : RGs w ρ R ((zayd ls l v).map TG.raw) ys := by
 unfold zayd
 rw [zee]
 exact zed (rel := RG w ρ R) (enc := fun a v => (CSh.enc ls a v).raw) (fun a x c v y hd hc hy => CSh.weak hd hc hy) h hc hr
inductive ASh where
 | one (h : Sh)
 | ag (l : List Sh)
 | clo (f : FuncId) (l : List CSh)
 | tp (l : List CSh)
abbrev ASh.den : ASh → Type
 | .one h => h.den
 | .ag l => denL l
 | .clo _ l => denC l
 | .tp l => denC l
def ASh.enc (ls : List Nat) : (a : ASh) → a.den → TV
 | .one h, v => .g (.b (h.enc ls v))
 | .ag l, v => .g (.ag (encL ls l v))
 | .clo f l, v => .cl f (zayd ls l v)
 | .tp l, v => .tp (zayd ls l v)
def ASh.decT : (a : ASh) → TV → Option (Kc × a.den)
 | .one h, .g (.b x) => h.decT x
 | .ag l, .g (.ag xs) => za2 Sh.decT l xs
 | .clo f l, .cl f' cs => if f = f' then za2 CSh.decT l cs else none
 | .tp l, .tp cs => za2 CSh.decT l cs
 | _, _ => none
def ASh.decR : (a : ASh) → V → Option (Kc × a.den)
 | .one h, .g (.b x) => h.decR x
 | .ag l, .g (.ag xs) => za2 Sh.decR l xs
 | .clo f l, .cl f' cs => if f = f' then za2 CSh.decR l cs else none
 | .tp l, .tp cs => za2 CSh.decR l cs
 | _, _ => none
theorem zs2 {l : List CSh} {xs : List TG} {v : Kc × denC l} (h : za2 CSh.decT l xs = some v) : za2 CSh.decR l (xs.map TG.raw) = some v :=
 zec (f := TG.raw) (fun a x v hd => CSh.dec_raw hd) h
theorem ASh.dec_raw {a : ASh} {x : TV} {v : Kc × a.den} (h : a.decT x = some v) : a.decR x.raw = some v := by
 cases a with
 | one s =>
  cases x with
  | g x => cases x with
   | b x => exact Sh.dec_raw h
   | ag l => cases h
  | cl f c => cases h
  | tp l => cases h
 | ag l =>
  cases x with
  | g x => cases x with
   | b x => cases h
   | ag l => exact zec (f := TB.raw) (fun a x v hd => Sh.dec_raw hd) h
  | cl f c => cases h
  | tp l => cases h
 | clo f l =>
  cases x with
  | g x => cases x <;> cases h
  | cl f' c =>
   simp only [ASh.decT] at h
   split at h
   ·rename_i hf
    show (if f = f' then za2 CSh.decR l (c.map TG.raw) else none) = _
    rw [if_pos hf]; exact zs2 h
   ·cases h
  | tp l => cases h
 | tp l =>
  cases x with
  | g x => cases x <;> cases h
  | cl f c => cases h
  | tp c => exact zs2 h
theorem ASh.weak {ls : List Nat} {a : ASh} {x : V} {c : Kc} {v : a.den} {w : World} {ρ : Rho} {R : Tab} {y : Value} (h : a.decR x = some (c, v)) (hc : allC (c ls)) (hr : RV w ρ R x y) : RV w ρ R (a.enc ls v).raw y := by
 cases a with
 | one s =>
  cases x with
  | g x => cases x with
   | b x => exact Sh.weak h hc (show RB w ρ R x y from hr)
   | ag l => cases h
  | cl f c => cases h
  | tp l => cases h
 | ag l =>
  cases x with
  | g x => cases x with
   | b x => cases h
   | ag zs =>
    obtain ⟨us, rfl, hz⟩ := hr
    exact ⟨us, rfl, z2d h hc hz⟩
  | cl f c => cases h
  | tp l => cases h
 | clo f l =>
  cases x with
  | g x => cases x <;> cases h
  | cl f' cs =>
   simp only [ASh.decR] at h
   split at h
   ·rename_i hf
    subst hf
    obtain ⟨us, rfl, hz⟩ := hr
    exact ⟨us, rfl, zvu h hc hz⟩
   ·cases h
  | tp l => cases h
 | tp l =>
  cases x with
  | g x => cases x <;> cases h
  | cl f c => cases h
  | tp cs =>
   obtain ⟨us, rfl, hz⟩ := hr
   exact ⟨us, rfl, zvu h hc hz⟩
inductive RSh where
 | row (g : Nat) (e : ETy)
 | rcd (g : Nat) (l : List Sh)
abbrev RSh.den : RSh → Type
 | .row _ e => List (Go.Gm.den e)
 | .rcd _ l => denL l
def RSh.len : (h : RSh) → h.den → Nat
 | .row _ _, xs => xs.length
 | .rcd _ _, _ => 0
def RSh.enc (ls : List Nat) : (h : RSh) → h.den → TEnt
 | .row g e, xs => .live (.row g e xs)
 | .rcd g l, v => .live (.rcd g (encL ls l v))
def RSh.decT : (h : RSh) → TEnt → Option (Kc × h.den)
 | .row g e, .live (.row g' e' xs) => if g = g' ∧ sz e' = sz e ∧ e.ok = true then match zdg e' e xs with
  | some ys => some (noC, ys)
  | none => none else none
 | .rcd g l, .live (.rcd g' cs) => if g = g' then za2 Sh.decT l cs else none
 | _, _ => none
def RSh.decR : (h : RSh) → Ent → Option (Kc × h.den)
 | .row g e, .live rt => if g = rt.g ∧ rt.es = sz e ∧ rt.row = true then match zyp e (rt.cells.length / sz e) rt.cells with
  | some ys => some (noC, ys)
  | none => none else none
 | .rcd g l, .live rt => if g = rt.g ∧ rt.es = rt.cells.length ∧ rt.row = false then za2 Sh.decR l rt.cells else none
 | _, _ => none
theorem zyu : ∀ (e : ETy) (x : den e), (encB e x).length = sz e
 | .int _, _ => rfl
 | .bool, _ => rfl
 | .str, _ => rfl
 | .pair a b, x => by simp only [encB, ql, zyu a, zyu b, sz]
 | .list _ _, _ => rfl
theorem zls (e : ETy) : ∀ (xs : List (den e)), (xs.flatMap (encB e)).length = xs.length * sz e
 | [] => by simp
 | x :: xs => by simp only [List.flatMap_cons, ql, zyu, zls e xs, qk]; rw [Nat.add_mul]; omega
theorem zaeg {e e' : ETy} {xs : List (den e)} {ys : List (den e')} (h : zdg e e' xs = some ys) : xs.flatMap (encB e) = ys.flatMap (encB e') := by
 unfold zdg at h
 split at h
 ·rename_i he; subst he; cases h; rfl
 ·cases xs with
  | nil => cases h; rfl
  | cons x xs => cases h
theorem RSh.dec_raw {h : RSh} {x : TEnt} {v : Kc × h.den} (hx : h.decT x = some v) : h.decR x.raw = some v := by
 cases h with
 | row g0 e =>
  cases x with
  | live rt =>
   cases rt with
   | row g e' xs =>
    simp only [RSh.decT] at hx
    split at hx
    ·rename_i hc
     obtain ⟨hg, he, hok⟩ := hc
     split at hx
     ·rename_i ys hys
      cases hx
      have hf := zaeg hys
      show (if g0 = g ∧ sz e' = sz e ∧ true = true then match zyp e ((xs.flatMap (encB e')).length / sz e) (xs.flatMap (encB e')) with | some ys => some (noC, ys) | none => none else none) = _
      rw [if_pos ⟨hg, he, rfl⟩, hf, zls, Nat.mul_div_cancel _ (zpp e), z2a hok]
     ·cases hx
    ·cases hx
   | rcd g cs => cases hx
  | _ => cases hx
 | rcd g0 l =>
  cases x with
  | live rt =>
   cases rt with
   | row g e' xs => cases hx
   | rcd g cs =>
    simp only [RSh.decT] at hx
    split at hx
    ·rename_i hc
     show (if g0 = g ∧ cs.length = (cs.map TB.raw).length ∧ false = false then za2 Sh.decR l (cs.map TB.raw) else none) = _
     rw [if_pos ⟨hc, by simp, rfl⟩]
     exact zec (f := TB.raw) (fun a x v hd => Sh.dec_raw hd) hx
    ·cases hx
  | _ => cases hx
def EntW (e e' : Ent) : Prop := e = e' ∨ ∃ rt rt', e = .live rt ∧ e' = .live rt' ∧ rt'.g = rt.g ∧ rt'.es = rt.es ∧ rt.row = false ∧ rt'.row = false ∧ RL (fun x x' => ∀ (w : World) (ρ : Rho) (R : Tab) (y : Value), RB w ρ R x y → RB w ρ R x' y) rt.cells rt'.cells
theorem RL.swap {X Y : Type} {rel : X → Y → Prop} {xs : List X} {ys : List Y} (h : RL rel xs ys) : RL (fun y x => rel x y) ys xs := ⟨h.1.symm, fun i y x hy hx => h.2 i x y hx hy⟩
theorem RL.get {X Y : Type} {rel : X → Y → Prop} {xs : List X} {ys : List Y} (h : RL rel xs ys) {i : Nat} {x : X} (hx : xs[i]? = some x) : ∃ y, ys[i]? = some y ∧ rel x y := by
 have hi := (qh.1 hx).1
 exact ⟨ys[i]'(by rw [← h.1]; exact hi), qb _, h.2 i _ _ hx (qb _)⟩
theorem RSh.dec_w {ls : List Nat} {h : RSh} {x : Ent} {c : Kc} {v : h.den} (hx : h.decR x = some (c, v)) (hC : allC (c ls)) : EntW x (h.enc ls v).raw := by
 cases h with
 | row g0 e =>
  cases x with
  | live rt =>
   obtain ⟨g, es, row, cells⟩ := rt
   simp only [RSh.decR] at hx
   split at hx
   ·rename_i hc
    obtain ⟨rfl, rfl, rfl⟩ := hc
    split at hx
    ·rename_i ys hys
     simp only [qc, qr] at hx
     obtain ⟨_, rfl⟩ := hx
     obtain ⟨h1, _⟩ := z2b hys
     left
     rw [h1]; rfl
    ·cases hx
   ·cases hx
  | _ => cases hx
 | rcd g0 l =>
  cases x with
  | live rt =>
   obtain ⟨g, es, row, cells⟩ := rt
   simp only [RSh.decR] at hx
   split at hx
   ·rename_i hc
    obtain ⟨rfl, rfl, rfl⟩ := hc
    have hrl : RL (fun x' x => ∀ (w : World) (ρ : Rho) (R : Tab) (y : Value), RB w ρ R x y → RB w ρ R x' y) ((encL ls l v).map TB.raw) cells := by
     unfold encL
     rw [zee]
     exact zed (dec := Sh.decR) (rel := fun x' x => ∀ (w : World) (ρ : Rho) (R : Tab) (y : Value), RB w ρ R x y → RB w ρ R x' y) (enc := fun a v => (Sh.enc ls a v).raw)
      (fun a x c v z hd hc hy w ρ R y hr => Sh.weak hd hc (hy w ρ R y hr)) hx hC (RL.self (fun _ _ _ _ _ h => h) cells)
    refine .inr ⟨⟨g0, cells.length, false, cells⟩, ⟨g0, (encL ls l v).length, false, (encL ls l v).map TB.raw⟩, rfl, rfl, rfl, ?_, rfl, rfl, hrl.swap⟩
    have := hrl.1
    simpa using this
   ·cases hx
  | _ => cases hx
abbrev denR : List RSh → Type := Tup RSh.den
def zbd (l : List RSh) (v : denR l) : List Nat := zbk RSh.len l v
def encR (l : List RSh) (v : denR l) : TTab := zbk (RSh.enc (zbd l v)) l v
theorem zyr {l : List RSh} {xs : TTab} {v : Kc × denR l} (h : za2 RSh.decT l xs = some v) : za2 RSh.decR l (zaf xs) = some v :=
 zec (f := TEnt.raw) (fun a x v hd => RSh.dec_raw hd) h
theorem zapp {l : List RSh} {xs : Tab} {c : Kc} {v : denR l} (h : za2 RSh.decR l xs = some (c, v)) (hC : allC (c (zbd l v))) : RL EntW xs (zaf (encR l v)) := by
 unfold encR zaf
 rw [zee]
 refine RL.swap (zed (ls := zbd l v) (dec := RSh.decR) (rel := fun x' x => EntW x x') (enc := fun a u => (RSh.enc (zbd l v) a u).raw) (fun a x c u y hd hc hy => ?_) h hC (RL.self (fun _ => .inl rfl) xs))
 have h1 := RSh.dec_w hd hc
 rcases hy with rfl | ⟨rt, rt', e1, e2, a1, a2, a3, a4, a5⟩
 ·exact h1
 ·subst e1 e2
  rcases h1 with e | ⟨rt1, rt2, b1, b2, b3, b4, b5, b6, b7⟩
  ·rw [← e]; exact .inr ⟨rt, rt', rfl, rfl, a1, a2, a3, a4, a5⟩
  ·cases b1
   exact .inr ⟨rt, rt2, rfl, b2, b3.trans a1, b4.trans a2, a3, b6, a5.1.trans b7.1, fun i x y hx hy w ρ R z hz => by
    obtain ⟨x', hx', hr⟩ := a5.get hx
    exact b7.2 i x' y hx' hy w ρ R z (hr w ρ R z hz)⟩
def zbj1 (w : World) (ρ : Rho) (R : Tab) (e e' : Ent) : Prop := e = e' ∨ ∃ rt rt', e = .live rt ∧ e' = .live rt' ∧ rt'.g = rt.g ∧ rt'.es = rt.es ∧ rt.row = false ∧ rt'.row = false ∧ RL (fun x x' => ∀ (y : Value), RB w ρ R x y → RB w ρ R x' y) rt.cells rt'.cells
theorem Step.weak2 {w : World} {ρ : Rho} {R R' : Tab} (h : RL (zbj1 w ρ R) R R') (hm : Mem w ρ R) : Step w ρ R w ρ R' := by
 have fwd : ∀ {r : Nat} {rt : Root}, R[r]? = some (.live rt) → ∃ rt', R'[r]? = some (.live rt') ∧ rt'.g = rt.g ∧ rt'.es = rt.es ∧ rt'.row = rt.row ∧ rt'.cells.length = rt.cells.length ∧ (rt' = rt ∨ rt.row = false) ∧ RL (fun x x' => ∀ (y : Value), RB w ρ R x y → RB w ρ R x' y) rt.cells rt'.cells := by
  intro r rt hr
  obtain ⟨e', he', hw⟩ := h.get hr
  rcases hw with rfl | ⟨rt1, rt', b1, rfl, b3, b4, b5, b6, b7⟩
  ·exact ⟨rt, he', rfl, rfl, rfl, rfl, .inl rfl, RL.self (fun _ _ h => h) _⟩
  ·cases b1
   exact ⟨rt', he', b3, b4, by rw [b5, b6], b7.1.symm, .inr b5, b7⟩
 have bwd : ∀ {r : Nat} {rt' : Root}, R'[r]? = some (.live rt') → ∃ rt, R[r]? = some (.live rt) := by
  intro r rt' hr
  obtain ⟨e, he, hw⟩ := h.swap.get hr
  rcases hw with rfl | ⟨rt1, rt2, b1, b2, _⟩
  ·exact ⟨rt', he⟩
  ·exact ⟨rt1, by rw [he, b1]⟩
 have own : ∀ b, Own ρ R' b ↔ Own ρ R b := by
  intro b
  constructor
  ·rintro ⟨r, rt', o, hr, hρ⟩
   obtain ⟨rt, hr⟩ := bwd hr
   exact ⟨r, rt, o, hr, hρ⟩
  ·rintro ⟨r, rt, o, hr, hρ⟩
   obtain ⟨rt', hr, _⟩ := fwd hr
   exact ⟨r, rt', o, hr, hρ⟩
 have ext : Ext w ρ R w ρ R' := by
  refine ⟨fun b hb => ⟨⟨hb.1, fun ho => hb.2 ((own b).1 ho)⟩, rfl⟩, fun _ => Iff.rfl, fun r e he hf => ?_⟩
  obtain ⟨e', he', hw⟩ := h.get he
  rcases hw with rfl | ⟨rt1, rt', rfl, rfl, b3, b4, b5, b6, b7⟩
  ·exact ⟨e, he', hf, fun rt' hrt' => ⟨rt', hrt', qi _, fun _ => ⟨rfl, rfl, rfl, qi _, fun _ _ _ => qi _⟩⟩⟩
  ·refine ⟨_, he', (by intro h; cases h), fun rt2 hrt2 => ?_⟩
   cases hrt2
   exact ⟨rt1, rfl, by omega, fun _ => ⟨b4, by rw [b5, b6], rfl, by rw [b7.1]; exact qi _, fun _ _ _ => qi _⟩⟩
 refine ⟨ext, ⟨fun r rt' hr' => ?_, fun r r' rt rt' b o o' h1 h2 h3 h4 => ?_, fun b hb => hm.apart b ((own b).1 hb), hm.outlt, hm.globE ext⟩, rfl, rfl, qi _, fun b hb => .inl ((own b).1 hb)⟩
 ·obtain ⟨rt, hr⟩ := bwd hr'
  obtain ⟨rt2, hr2, e1, e2, e3, e4, e5, e6⟩ := fwd hr
  rw [hr'] at hr2
  cases hr2
  obtain ⟨k1, k2⟩ := hm.roots r rt hr
  refine ⟨?_, fun hrow => ?_⟩
  ·cases hg : ρ.gh r with
   | none =>
    rw [hg] at k1
    simp only at k1 ⊢
    have : rt'.cells.length = 0 := by rw [e4, k1]; rfl
    exact ks this
   | some bo =>
    obtain ⟨b, o⟩ := bo
    rw [hg] at k1
    simp only at k1 ⊢
    obtain ⟨c, T, fr, a1, a2, a3, a4⟩ := k1
    refine ⟨c, T, fr, a1, a2, by rw [e4]; exact a3, fun i x hx => ?_⟩
    obtain ⟨x0, hx0, hrel⟩ := e6.swap.get hx
    obtain ⟨y, hy, hrb⟩ := a4 i x0 hx0
    exact ⟨y, hy, zif ext (hrel _ hrb)⟩
  ·rcases e5 with rfl | e5
   ·exact k2 hrow
   ·rw [e3, e5] at hrow; cases hrow
 ·obtain ⟨rt1, g1⟩ := bwd h1
  obtain ⟨rt2, g2⟩ := bwd h2
  exact hm.dist r r' rt1 rt2 b o o' g1 g2 h3 h4
theorem Step.weak {w : World} {ρ : Rho} {R R' : Tab} (h : RL EntW R R') (hm : Mem w ρ R) : Step w ρ R w ρ R' := by
 refine Step.weak2 ⟨h.1, fun i x y hx hy => ?_⟩ hm
 rcases h.2 i x y hx hy with e | ⟨rt, rt', a1, a2, a3, a4, a5, a6, a7⟩
 ·exact .inl e
 ·exact .inr ⟨rt, rt', a1, a2, a3, a4, a5, a6, a7.1, fun i x y hx hy z hz => a7.2 i x y hx hy w ρ R z hz⟩
def zbj2 (w : World) (ρ : Rho) (R R' : Tab) (e e' : Ent) : Prop := (e = e' ∧ ∀ rt, e ≠ .live rt) ∨ ∃ rt rt', e = .live rt ∧ e' = .live rt' ∧ rt.g ≤ rt'.g ∧ rt'.es = rt.es ∧ rt'.row = rt.row ∧ (rt.row = true → rt'.cells = rt.cells) ∧ RL (fun x x' => ∀ (y : Value), RB w ρ R x y → RB w ρ R' x' y) rt.cells rt'.cells
theorem Step.weak3 {w : World} {ρ : Rho} {R R' : Tab} (h : RL (zbj2 w ρ R R') R R') (hm : Mem w ρ R) : Step w ρ R w ρ R' := by
 have fwd : ∀ {r : Nat} {rt : Root}, R[r]? = some (.live rt) → ∃ rt', R'[r]? = some (.live rt') := by
  intro r rt hr
  obtain ⟨e', he', hw⟩ := h.get hr
  rcases hw with ⟨_, h1⟩ | ⟨rt1, rt', _, rfl, _⟩
  ·exact absurd rfl (h1 rt)
  ·exact ⟨rt', he'⟩
 have bwd : ∀ {r : Nat} {rt' : Root}, R'[r]? = some (.live rt') → ∃ rt, R[r]? = some (.live rt) ∧ rt.g ≤ rt'.g ∧ rt'.es = rt.es ∧ rt'.row = rt.row ∧ (rt.row = true → rt'.cells = rt.cells) ∧ RL (fun x x' => ∀ (y : Value), RB w ρ R x y → RB w ρ R' x' y) rt.cells rt'.cells := by
  intro r rt' hr
  obtain ⟨e, he, hw⟩ := h.swap.get hr
  rcases hw with ⟨rfl, h1⟩ | ⟨rt1, rt2, rfl, e2, h1, h2, h3, h4, h5⟩
  ·exact absurd rfl (h1 rt')
  ·cases e2; exact ⟨rt1, he, h1, h2, h3, h4, h5⟩
 have own : ∀ b, Own ρ R' b ↔ Own ρ R b := by
  intro b
  constructor
  ·rintro ⟨r, rt', o, hr, hρ⟩
   obtain ⟨rt, hr, _⟩ := bwd hr
   exact ⟨r, rt, o, hr, hρ⟩
  ·rintro ⟨r, rt, o, hr, hρ⟩
   obtain ⟨rt', hr⟩ := fwd hr
   exact ⟨r, rt', o, hr, hρ⟩
 have ext : Ext w ρ R w ρ R' := by
  refine ⟨fun b hb => ⟨⟨hb.1, fun ho => hb.2 ((own b).1 ho)⟩, rfl⟩, fun _ => Iff.rfl, fun r e he hf => ?_⟩
  obtain ⟨e', he', hw⟩ := h.get he
  rcases hw with ⟨rfl, h1⟩ | ⟨rt1, rt', rfl, rfl, h1, h2, h3, h4, h5⟩
  ·exact ⟨e, he', hf, fun rt' hrt' => absurd hrt' (h1 rt')⟩
  ·refine ⟨_, he', (by intro h; cases h), fun rt2 hrt2 => ?_⟩
   cases hrt2
   exact ⟨rt1, rfl, h1, fun _ => ⟨h2, h3, rfl, by rw [h5.1]; exact qi _, fun _ _ _ => qi _⟩⟩
 refine ⟨ext, ⟨fun r rt' hr' => ?_, fun r r' rt rt' b o o' h1 h2 h3 h4 => ?_, fun b hb => hm.apart b ((own b).1 hb), hm.outlt, hm.globE ext⟩, rfl, rfl, qi _, fun b hb => .inl ((own b).1 hb)⟩
 ·obtain ⟨rt, hr, e1, e2, e3, e4, e5⟩ := bwd hr'
  obtain ⟨k1, k2⟩ := hm.roots r rt hr
  refine ⟨?_, fun hrow => by rw [e4 (by rw [← e3]; exact hrow)]; exact k2 (by rw [← e3]; exact hrow)⟩
  cases hg : ρ.gh r with
  | none =>
   rw [hg] at k1
   simp only at k1 ⊢
   have : rt'.cells.length = 0 := by rw [← e5.1, k1]; rfl
   exact ks this
  | some bo =>
   obtain ⟨b, o⟩ := bo
   rw [hg] at k1
   simp only at k1 ⊢
   obtain ⟨c, T, fr, a1, a2, a3, a4⟩ := k1
   refine ⟨c, T, fr, a1, a2, by rw [← e5.1]; exact a3, fun i x hx => ?_⟩
   obtain ⟨x0, hx0, hrel⟩ := e5.swap.get hx
   obtain ⟨y, hy, hrb⟩ := a4 i x0 hx0
   exact ⟨y, hy, hrel _ hrb⟩
 ·obtain ⟨rt1, g1, _⟩ := bwd h1
  obtain ⟨rt2, g2, _⟩ := bwd h2
  exact hm.dist r r' rt1 rt2 b o o' g1 g2 h3 h4
section
variable {ι : Type} {den : ι → Type}
abbrev PD (den : ι → Type) (a : List ι) (r : List RSh) : Type := match r with
 | [] => Tup den a
 | r0 :: rs => Tup den a × denR (r0 :: rs)
def PD.fst {a : List ι} : (r : List RSh) → PD den a r → Tup den a
 | [], v => v
 | _ :: _, v => v.1
def PD.snd {a : List ι} : (r : List RSh) → PD den a r → denR r
 | [], _ => ()
 | _ :: _, v => v.2
def PD.mk {a : List ι} : (r : List RSh) → Tup den a → denR r → PD den a r
 | [], v, _ => v
 | _ :: _, v, u => (v, u)
theorem PD.fst_mk {a : List ι} : ∀ (r : List RSh) (v : Tup den a) (u : denR r), PD.fst r (PD.mk r v u) = v
 | [], v, u => rfl
 | _ :: _, v, u => rfl
theorem PD.snd_mk {a : List ι} : ∀ (r : List RSh) (v : Tup den a) (u : denR r), PD.snd r (PD.mk r v u) = u
 | [], v, u => rfl
 | _ :: _, v, u => rfl
end
structure FSh where
 a : List ASh
 r : List RSh
abbrev FSh.den (s : FSh) : Type := PD ASh.den s.a s.r
def FSh.args (s : FSh) (v : s.den) : List TV := zbk (ASh.enc (zbd s.r (PD.snd s.r v))) s.a (PD.fst s.r v)
def FSh.tab (s : FSh) (v : s.den) : TTab := encR s.r (PD.snd s.r v)
structure FO where
 a : List CSh
 r : List RSh
abbrev FO.den (s : FO) : Type := PD CSh.den s.a s.r
def FO.emb (s : FO) (v : s.den) : TV × TTab := (zga (zbk (CSh.enc (zbd s.r (PD.snd s.r v))) s.a (PD.fst s.r v)), encR s.r (PD.snd s.r v))
abbrev FOs.den (l : List FO) : Type := SumD FO.den l
def FOs.emb (l : List FO) (o : FOs.den l) : TV × TTab := outS FO.emb l o
def FOs.cs (l : List FO) (o : FOs.den l) : T (TV × TTab) := csS FO.emb l o
def libT (s : FSh) (l : List FO) (F : s.den → Option (FOs.den l)) (next : List TV → TTab → T (TV × TTab)) : List TV → TTab → T (TV × TTab) := fun args R =>
 match za2 ASh.decT s.a args with
 | some v => match za2 RSh.decT s.r R with
  | some u => zz9 (v.1 (zbd s.r u.2) ++ u.1 (zbd s.r u.2)) (.sub (F (PD.mk s.r v.2 u.2)) (FOs.cs l))
  | none => next args R
 | none => next args R
def zbcp : List TV → TTab → T (TV × TTab) := fun _ _ => .fail
open Classical in
def rawT (s : FSh) (l : List FO) (F : s.den → Option (FOs.den l)) (next : List V → Tab → Option (V × Tab)) : List V → Tab → Option (V × Tab) := fun args R =>
 match za2 ASh.decR s.a args, za2 RSh.decR s.r R with
 | some v, some u => if allC (v.1 (zbd s.r u.2)) ∧ allC (u.1 (zbd s.r u.2)) then (F (PD.mk s.r v.2 u.2)).map fun o => ((FOs.emb l o).1.raw, zaf (FOs.emb l o).2) else none
 | _, _ => next args R
def zbcq : List V → Tab → Option (V × Tab) := fun _ _ => none
def Sep (s : FSh) (next : List TV → TTab → T (TV × TTab)) : Prop := ∀ args R x, (next args R).run = some x → za2 ASh.decR s.a (args.map TV.raw) = none ∨ za2 RSh.decR s.r (zaf R) = none
theorem za1y {s : FSh} : Sep s zbcp := fun _ _ _ h => by cases h
theorem zask : LibR zbcp zbcq := fun _ _ _ _ h => by cases h
theorem zbjn {s : FSh} {l : List FO} {F : s.den → Option (FOs.den l)} {next : List TV → TTab → T (TV × TTab)} {nextR : List V → Tab → Option (V × Tab)}
  (hs : Sep s next) (hn : LibR next nextR) : LibR (libT s l F next) (rawT s l F nextR) := by
 intro args R v R' h
 have other : (next args R).run = some (v, R') → rawT s l F nextR (args.map TV.raw) (zaf R) = some (v.raw, zaf R') := by
  intro h
  unfold rawT
  rcases hs _ _ _ h with e | e
  ·simp only [e]; exact hn _ _ _ _ h
  ·cases hd : za2 ASh.decR s.a (args.map TV.raw) <;> simp only [e] <;> exact hn _ _ _ _ h
 unfold libT at h
 split at h
 ·rename_i a ha
  split at h
  ·rename_i u hu
   obtain ⟨hc, h⟩ := zgu h
   simp only [T.run] at h
   obtain ⟨o, ho, h⟩ := qx.1 h
   have h := (zym _ _ _ _ h).symm
   have h : FOs.emb l o = (v, R') := h
   unfold rawT
   simp only [zec (f := TV.raw) (fun a x v hd => ASh.dec_raw hd) ha, zyr hu]
   rw [if_pos (zhh hc)]
   simp only [ho, Option.map_some, h]
  ·exact other h
 ·exact other h
def FOK (P : Program) (f : FuncId) (s : FSh) (l : List FO) (F : s.den → Option (FOs.den l)) : Prop :=
 ∀ v o, F v = some o → zve P f ((s.args v).map TV.raw) (zaf (s.tab v)) (FOs.emb l o).1.raw (zaf (FOs.emb l o).2)
theorem zbek {P : Program} {f : FuncId} {s : FSh} {l : List FO} {F : s.den → Option (FOs.den l)} {next : List V → Tab → Option (V × Tab)}
  (h : FOK P f s l F) (hn : FnOK P f next) : FnOK P f (rawT s l F next) := by
 intro args R res R' hr
 unfold rawT at hr
 split at hr
 ·rename_i v u hv hu
  split at hr
  ·rename_i hC
   obtain ⟨o, ho, hr⟩ := qf.1 hr
   cases hr
   obtain ⟨h1, h2⟩ := h _ o ho
   have e1 : s.tab (PD.mk s.r v.2 u.2) = encR s.r u.2 := by unfold FSh.tab; rw [PD.snd_mk]
   have e2 : s.args (PD.mk s.r v.2 u.2) = zbk (ASh.enc (zbd s.r u.2)) s.a v.2 := by unfold FSh.args; rw [PD.fst_mk, PD.snd_mk]
   rw [e1, e2] at h2
   refine ⟨h1, fun w ρ vs hm hl hvs => ?_⟩
   have hw := zapp (c := u.1) hu hC.2
   have st := Step.weak hw hm
   refine (h2 w ρ vs st.mem ?_ ?_).mono fun e w' ⟨x, ρ', hx, st', hv'⟩ => ⟨x, ρ', hx, st.trans st', hv'⟩
   ·intro j e he
    obtain ⟨e0, he0, hw⟩ := hw.swap.get he
    rcases hw with rfl | ⟨rt, rt', e1, rfl, e2, _⟩
    ·exact hl j _ he0
    ·obtain ⟨rt1, h3, h4⟩ := hl j _ he0
     rw [e1] at h3; cases h3
     exact ⟨rt', rfl, by rw [e2]; exact h4⟩
   ·rw [zee]
    have hvs' : RL (RV w ρ (zaf (encR s.r u.2))) args vs := ⟨hvs.1, fun i x y hx hy => zj2 st.ext (hvs.2 i x y hx hy)⟩
    exact zed (rel := RV w ρ (zaf (encR s.r u.2))) (enc := fun a v => (ASh.enc (zbd s.r u.2) a v).raw) (fun a x c v y hd hc hy => ASh.weak hd hc hy) hv hC.1 hvs'
  ·cases hr
 ·exact hn args R res R' hr
theorem zayf {P : Program} {f : FuncId} : FnOK P f zbcq := fun _ _ _ _ h => by cases h
def TEnv.add (E : TEnv) (f : FuncId) (L : List TV → TTab → T (TV × TTab)) (F : List V → Tab → Option (V × Tab)) : TEnv :=
 { E with lib := fun g => if g = f then some L else E.lib g, raw := fun g => if g = f then F else E.raw g }
structure TEnv.OK (E : TEnv) : Prop where
 mix : E.P.follows .mixedOrders = true
 lib : E.LibOK
 fn : ∀ f, FnOK E.P f (E.raw f)
theorem TEnv.OK.add {E : TEnv} (h : E.OK) {f : FuncId} {L : List TV → TTab → T (TV × TTab)} {F : List V → Tab → Option (V × Tab)} (hL : LibR L F) (hF : FnOK E.P f F) : (E.add f L F).OK := by
 refine ⟨h.mix, fun g L' hg => ?_, fun g => ?_⟩
 ·unfold TEnv.add at hg ⊢
  simp only at hg ⊢
  split at hg
  ·rename_i e; cases hg; rw [if_pos e]; exact hL
  ·rename_i e; rw [if_neg e]; exact h.lib g L' hg
 ·unfold TEnv.add
  simp only
  split
  ·rename_i e; subst e; exact hF
  ·exact h.fn g
def TEnv.add1 (E : TEnv) (f : FuncId) (s : FSh) (l : List FO) (F : s.den → Option (FOs.den l)) : TEnv := E.add f (libT s l F zbcp) (rawT s l F zbcq)
theorem TEnv.OK.add1 {E : TEnv} (h : E.OK) {f : FuncId} {s : FSh} {l : List FO} {F : s.den → Option (FOs.den l)} (hF : FOK E.P f s l F) : (E.add1 f s l F).OK :=
 h.add (zbjn za1y zask) (zbek hF zayf)
def zt2 : TV → List TG
 | .g x => [x]
 | .tp xs => xs
 | .cl .. => []
def okTV (n : Nat) : TV → Bool
 | .g _ => n == 1
 | .tp _ => n != 1
 | .cl .. => false
def FO.dec (s : FO) (v : TV) (R : TTab) : Option (List Bool × s.den) :=
 if okTV s.a.length v then
  match za2 CSh.decT s.a (zt2 v) with
  | some p => match za2 RSh.decT s.r R with
   | some u => some (p.1 (zbd s.r u.2) ++ u.1 (zbd s.r u.2), PD.mk s.r p.2 u.2)
   | none => none
  | none => none
 else none
def FOs.dec : (l : List FO) → TV × TTab → T (FOs.den l)
 | [], _ => .fail
 | [s], x => match s.dec x.1 x.2 with
  | some v => zz9 v.1 (.ret v.2)
  | none => .fail
 | s :: s2 :: t, x => match s.dec x.1 x.2 with
  | some v => zz9 v.1 (.ret (.inl v.2))
  | none => (FOs.dec (s2 :: t) x).bind fun v => .ret (.inr v)
theorem zwo {w : World} {ρ : Rho} {R : Tab} {xs : List G} {x : Value} : RV w ρ R (zk7 xs) x ↔ match xs with
  | [g] => RG w ρ R g x
  | xs => ∃ ys, x = .tuple ys ∧ RGs w ρ R xs ys.toList := by
 cases xs with
 | nil => exact Iff.rfl
 | cons g xs => cases xs <;> exact Iff.rfl
theorem FO.dec_weak {s : FO} {v : TV} {R : TTab} {cs : List Bool} {p : s.den} (h : s.dec v R = some (cs, p)) (hC : allC cs) {w : World} {ρ : Rho} {x : Value} (hm : Mem w ρ (zaf R)) (hr : RV w ρ (zaf R) v.raw x) :
  Step w ρ (zaf R) w ρ (zaf (s.emb p).2) ∧ RV w ρ (zaf (s.emb p).2) (s.emb p).1.raw x := by
 have key : ∀ (q : Kc × denC s.a) (u : Kc × denR s.r), p = PD.mk s.r q.2 u.2 → cs = q.1 (zbd s.r u.2) ++ u.1 (zbd s.r u.2) → za2 CSh.decT s.a (zt2 v) = some q → za2 RSh.decT s.r R = some u → v = zga (zt2 v) →
   Step w ρ (zaf R) w ρ (zaf (s.emb p).2) ∧ RV w ρ (zaf (s.emb p).2) (s.emb p).1.raw x := by
  intro q u e ecs hq hu hv
  subst e ecs
  obtain ⟨hC1, hC2⟩ := zhh hC
  have e1 : (s.emb (PD.mk s.r q.2 u.2)).2 = encR s.r u.2 := by unfold FO.emb; rw [PD.snd_mk]
  have e2 : (s.emb (PD.mk s.r q.2 u.2)).1 = zga (zbk (CSh.enc (zbd s.r u.2)) s.a q.2) := by unfold FO.emb; rw [PD.fst_mk, PD.snd_mk]
  rw [e1, e2]
  have st := Step.weak (zapp (c := u.1) (zyr hu) hC2) hm
  refine ⟨st, ?_⟩
  have hr := zj2 st.ext hr
  rw [hv, zgz, zwo] at hr
  rw [zgz, zwo, zee]
  have hq' := zs2 hq
  have cons : ∀ {ys : List Value}, RGs w ρ (zaf (encR s.r u.2)) ((zt2 v).map TG.raw) ys → RGs w ρ (zaf (encR s.r u.2)) (zbk (fun a v => (CSh.enc (zbd s.r u.2) a v).raw) s.a q.2) ys := by
   intro ys hy
   exact zed (rel := RG w ρ (zaf (encR s.r u.2))) (enc := fun a v => (CSh.enc (zbd s.r u.2) a v).raw) (fun a x c v y hd hc hy => CSh.weak hd hc hy) hq' hC1 hy
  have hlen : (zbk (fun a v => (CSh.enc (zbd s.r u.2) a v).raw) s.a q.2).length = ((zt2 v).map TG.raw).length := by
   rw [znx, ← znv hq']
  generalize hA : zbk (fun a v => (CSh.enc (zbd s.r u.2) a v).raw) s.a q.2 = A at cons hlen
  generalize hB : (zt2 v).map TG.raw = B at cons hlen hr
  cases A with
  | nil =>
   cases B with
   | nil => exact hr.imp fun ys h => ⟨h.1, cons h.2⟩
   | cons b B => simp at hlen
  | cons a A =>
   cases B with
   | nil => simp at hlen
   | cons b B =>
    cases A with
    | nil =>
     cases B with
     | nil =>
      have hr : RG w ρ (zaf (encR s.r u.2)) b x := hr
      have := cons (ys := [x]) (RL.cons hr ⟨rfl, fun i x y hx hy => by simp at hx⟩)
      exact this.2 0 a x rfl rfl
     | cons b2 B => simp at hlen
    | cons a2 A =>
     cases B with
     | nil => simp at hlen
     | cons b2 B => exact hr.imp fun ys h => ⟨h.1, cons h.2⟩
 unfold FO.dec at h
 split at h
 ·rename_i hok
  split at h
  ·rename_i q hq
   split at h
   ·rename_i u hu
    simp only [qc, qr] at h
    obtain ⟨h1, h2⟩ := h
    refine key q u h2.symm h1.symm hq hu ?_
    have hl := znv hq
    cases v with
    | g y => rfl
    | cl f c => simp [okTV] at hok
    | tp xs =>
     rw [← hl] at hok
     cases xs with
     | nil => rfl
     | cons a xs =>
      cases xs with
      | nil => simp [okTV, zt2] at hok
      | cons b xs => rfl
   ·cases h
  ·cases h
 ·cases h
theorem FOs.dec_weak {w : World} {ρ : Rho} {y : Value} : ∀ {l : List FO} {x : TV × TTab} {o : FOs.den l}, (FOs.dec l x).run = some o → Mem w ρ (zaf x.2) → RV w ρ (zaf x.2) x.1.raw y →
  Step w ρ (zaf x.2) w ρ (zaf (FOs.emb l o).2) ∧ RV w ρ (zaf (FOs.emb l o).2) (FOs.emb l o).1.raw y
 | [], x, o, h => by cases h
 | [s], x, o, h => by
  intro hm hr
  simp only [FOs.dec] at h
  cases hd : s.dec x.1 x.2 with
  | none => rw [hd] at h; cases h
  | some v =>
   rw [hd] at h
   obtain ⟨hc, h⟩ := zgu h
   simp only [T.run, qc] at h
   subst h
   exact FO.dec_weak (cs := v.1) hd hc hm hr
 | s :: s2 :: t, x, o, h => by
  intro hm hr
  simp only [FOs.dec] at h
  split at h
  ·rename_i v hd
   obtain ⟨hc, h⟩ := zgu h
   simp only [T.run, qc] at h
   subst h
   exact FO.dec_weak (cs := v.1) hd hc hm hr
  ·obtain ⟨v, h1, h2⟩ := T.bind_run h
   simp only [T.run, qc] at h2
   subst h2
   exact FOs.dec_weak (l := s2 :: t) h1 hm hr
theorem zao {E : TEnv} (hE : E.OK) {told : Nat → Option zal} {f : FuncId} {fn : Func} {c : Code} {fl : List (Option ETy)} {s : FSh} {l : List FO} {tree : s.den → T (FOs.den l)}
  (hfn : E.P.funcs[f]? = some fn) (hb : fn.body = some c) (hname : (fn.name == "runtime.NumGoroutine") = false) (hfit : fits fn.ntmps c = true) (hloops : zfx E.P s.r.length told c)
  (ht : ∀ v, (fnT E told s.r.length fl fn c (s.args v) (s.tab v)).bind (FOs.dec l) = tree v) : FOK E.P f s l (fun v => (tree v).run) := by
 intro v o ho
 have hl : (s.tab v).length = s.r.length := znx _ _ _
 have ho : (tree v).run = some o := ho
 rw [← ht v] at ho
 obtain ⟨⟨res, R'⟩, h1, h2⟩ := T.bind_run ho
 have := zapy (R := s.tab v) (R' := R') (res := res) (args := s.args v) (fl := fl) hE.mix hE.lib hE.fn hfn hb hname hfit (by rw [hl]; exact hloops) (by rw [hl]; exact h1)
 refine ⟨this.1, fun w ρ vs hm hlv hvs => (this.2 w ρ vs hm hlv hvs).mono fun e w' ⟨x, ρ', hx, st, hr⟩ => ?_⟩
 obtain ⟨st2, hr2⟩ := FOs.dec_weak h2 st.mem hr
 exact ⟨x, ρ', hx, st.trans st2, hr2⟩
theorem FOK.mono {P : Program} {f : FuncId} {s : FSh} {l : List FO} {F G : s.den → Option (FOs.den l)} (h : FOK P f s l F) (hg : ∀ v o, G v = some o → F v = some o) : FOK P f s l G :=
 fun v o ho => h v o (hg _ _ ho)
def recN {α β : Type} (step : (α → Option β) → α → Option β) : Nat → α → Option β
 | 0 => fun _ => none
 | n + 1 => step (recN step n)
theorem FOK.rec {P : Program} {f : FuncId} {s : FSh} {l : List FO} {step : (s.den → Option (FOs.den l)) → s.den → Option (FOs.den l)} (h : ∀ F, FOK P f s l F → FOK P f s l (step F)) : ∀ n, FOK P f s l (recN step n)
 | 0 => fun _ _ h => by cases h
 | n + 1 => h _ (FOK.rec h n)
def zmb : Nat := 1000000000
def recF {α β : Type} (step : (α → Option β) → α → Option β) : α → Option β := recN step zmb
structure OSh where
 ex : Ex
 s : List (Nat × ASh)
 r : List RSh
abbrev z7w (p : Nat × ASh) : Type := p.2.den
abbrev OSh.den (o : OSh) : Type := PD z7w o.s o.r
def zafk (ls : List Nat) (p : Nat × ASh) (v : z7w p) : Nat × TV := (p.1, p.2.enc ls v)
def zaui (p : Nat × ASh) (x : Nat × TV) : Option (Kc × z7w p) := if p.1 = x.1 then p.2.decT x.2 else none
def zacr (p : Nat × ASh) (x : Nat × V) : Option (Kc × z7w p) := if p.1 = x.1 then p.2.decR x.2 else none
def OSh.emb (o : OSh) (v : o.den) : Ex × zat × TTab := (o.ex, zbk (zafk (zbd o.r (PD.snd o.r v))) o.s (PD.fst o.r v), encR o.r (PD.snd o.r v))
def zbeh (R : TTab) (a : Nat × Nat × ETy) : TTab := match R[a.1]? with
 | some (.live (.rcd g cs)) => match cs[a.2.1]? with
  | some (.ro _ [] true _) => R.set a.1 (.live (.rcd g (cs.set a.2.1 (.rf R.length 0 0 0)))) ++ [.live (.row 0 a.2.2 [])]
  | _ => R
 | _ => R
def za56 (own : List (Nat × Nat × ETy)) (R : TTab) : TTab := own.foldl zbeh R
def zhl (bs : List Nat) (R : TTab) (r g : Nat) : Option (Nat × Nat) := match bs.contains r, R[r]? with
 | false, _ => some (r, g)
 | true, some (.live rt) => if rt.g = g then some (r, max g 1) else none
 | true, _ => none
def zj1 (bs : List Nat) (R : TTab) (r : Nat) : TEnt → TEnt
 | .live rt => .live (rt.mapR (zhl bs R) (if bs.contains r then max rt.g 1 else rt.g))
 | e => e
def zbcg (bs : List Nat) (R : TTab) : TTab := match bs with
 | [] => R
 | _ => R.mapIdx (zj1 bs R)
def zbcf (bs : List Nat) (R : TTab) (s : zat) : zat := match bs with
 | [] => s
 | _ => s.map fun p => (p.1, p.2.mapR (zhl bs R))
structure LSh where
 keep : Ex → List (Nat × Option ETy)
 s : List (Nat × ASh)
 r : List RSh
 outs : List OSh
 own : List (Nat × Nat × ETy)
 bump : List Nat
abbrev LSh.A (l : LSh) : Type := PD z7w l.s l.r
abbrev LSh.B (l : LSh) : Type := SumD OSh.den l.outs
def LSh.st (l : LSh) (v : l.A) : zat × TTab := (zbk (zafk (zbd l.r (PD.snd l.r v))) l.s (PD.fst l.r v), encR l.r (PD.snd l.r v))
def LSh.dec (l : LSh) (s : zat) (R : TTab) : T l.A :=
 match za2 zaui l.s (zbcf l.bump R s) with
 | some v => match za2 RSh.decT l.r (za56 l.own (zbcg l.bump R)) with
  | some u => zz9 (v.1 (zbd l.r u.2) ++ u.1 (zbd l.r u.2)) (.ret (PD.mk l.r v.2 u.2))
  | none => .fail
 | none => .fail
def LSh.told (l : LSh) (m : Nat) (step : l.A → T (l.A ⊕ l.B)) : zal := zbjp m l.keep l.dec step (csS OSh.emb l.outs)
def Ex.same : Ex → Ex → Bool
 | .norm, .norm => true
 | .ret, .ret => true
 | .exit i, .exit j => i == j
 | _, _ => false
def OSh.dec (o : OSh) (x : Ex × zat × TTab) : Option (List Bool × o.den) :=
 if o.ex.same x.1 then
  match za2 zaui o.s x.2.1 with
  | some v => match za2 RSh.decT o.r x.2.2 with
   | some u => some (v.1 (zbd o.r u.2) ++ u.1 (zbd o.r u.2), PD.mk o.r v.2 u.2)
   | none => none
  | none => none
 else none
def znu : (l : List OSh) → Ex × zat × TTab → T (SumD OSh.den l)
 | [], _ => .fail
 | [s], x => match s.dec x with
  | some v => zz9 v.1 (.ret v.2)
  | none => .fail
 | s :: s2 :: t, x => match s.dec x with
  | some v => zz9 v.1 (.ret (.inl v.2))
  | none => (znu (s2 :: t) x).bind fun v => .ret (.inr v)
def LSh.rd (l : LSh) (x : Ex × zat × TTab) : T (l.A ⊕ l.B) :=
 match x.1 with
 | .norm => (l.dec x.2.1 x.2.2).bind fun v => .ret (.inl v)
 | _ => (znu l.outs x).bind fun v => .ret (.inr v)
theorem zasm {rel : V → V → Prop} : ∀ {s s' : zej}, RL (fun (p : Nat × V) (q : Nat × V) => p.1 = q.1 ∧ rel p.2 q.2) s' s → ∀ t v, look s' t = some v → ∃ x, look s t = some x ∧ rel v x
 | s, [], h, t, v, ht => by cases ht
 | s, (d, x) :: s', h, t, v, ht => by
  obtain ⟨⟨d', x'⟩, s1, rfl, ⟨hd, hx⟩, hs⟩ := h.tail
  simp only at hd hx
  subst hd
  simp only [look] at ht ⊢
  split at ht
  ·rename_i e
   cases ht
   rw [if_pos e]
   exact ⟨x', rfl, hx⟩
  ·rename_i e
   rw [if_neg e]
   exact zasm hs t v ht
theorem Inv.weak {w0 : World} {ρ0 : Rho} {R0 : Tab} {N : Nat} {s s' : zej} {R : Tab} {a : Act} {w : World}
  (hw : RL (fun (p : Nat × V) (q : Nat × V) => p.1 = q.1 ∧ ∀ (w : World) (ρ : Rho) (R : Tab) (y : Value), RV w ρ R q.2 y → RV w ρ R p.2 y) s' s) (hi : Inv w0 ρ0 R0 N s R a w) : Inv w0 ρ0 R0 N s' R a w := by
 obtain ⟨ρ, st, hs⟩ := hi
 refine ⟨ρ, st, hs.defers, hs.size, fun t v hv => ?_⟩
 obtain ⟨x, hx, hr⟩ := zasm (rel := fun v x => ∀ (w : World) (ρ : Rho) (R : Tab) (y : Value), RV w ρ R x y → RV w ρ R v y) hw t v hv
 exact hr _ _ _ _ (hs.val t x hx)
theorem zauj (a : Nat × ASh) (x : Nat × TV) (v : Kc × z7w a) (h : zaui a x = some v) : zacr a (x.1, x.2.raw) = some v := by
 unfold zaui at h
 unfold zacr
 split at h
 ·rename_i e
  simp only
  rw [if_pos e]; exact ASh.dec_raw h
 ·cases h
theorem dec_inv {sl : List (Nat × ASh)} {rs : List RSh} {s : zat} {R : TTab} {p : Kc × Tup z7w sl} {u : Kc × denR rs} (hp : za2 zaui sl s = some p) (hu : za2 RSh.decT rs R = some u) (hC : allC (p.1 (zbd rs u.2) ++ u.1 (zbd rs u.2))) :
  zu1 s R (zbk (zafk (zbd rs u.2)) sl p.2) (encR rs u.2) := by
 intro w0 ρ0 R0 N a w hi
 obtain ⟨hC1, hC2⟩ := zhh hC
 have hi2 : Inv w0 ρ0 R0 N (zas s) (zaf (encR rs u.2)) a w := by
  obtain ⟨ρ, st, hs⟩ := hi
  have st2 := Step.weak (zapp (c := u.1) (zyr hu) hC2) st.mem
  exact ⟨ρ, st.trans st2, hs.ext st2.ext⟩
 refine Inv.weak ?_ hi2
 have hd := zec (f := fun x : Nat × TV => (x.1, x.2.raw)) zauj hp
 have := zed (ls := zbd rs u.2) (dec := zacr) (enc := fun p v => (p.1, (p.2.enc (zbd rs u.2) v).raw)) (rel := fun (p : Nat × V) (q : Nat × V) => p.1 = q.1 ∧ ∀ (w : World) (ρ : Rho) (R : Tab) (y : Value), RV w ρ R q.2 y → RV w ρ R p.2 y)
  (fun a x c v y hd hc hr => by
   unfold zacr at hd
   split at hd
   ·rename_i e
    exact ⟨by rw [← hr.1, ← e], fun w ρ R z hz => ASh.weak hd hc (by have := hr.2 w ρ R z hz; exact this)⟩
   ·cases hd) hd hC1 (RL.self (fun x => ⟨rfl, fun _ _ _ _ h => h⟩) _)
 have e3 : zas (zbk (zafk (zbd rs u.2)) sl p.2) = zbk (fun (p : Nat × ASh) v => (p.1, (p.2.enc (zbd rs u.2) v).raw)) sl p.2 := by
  unfold zas
  rw [zee]
  rfl
 rw [e3]
 exact this
theorem zatm {s : zat} {R : TTab} {a : Nat × Nat × ETy} : zu1 s R s (zbeh R a) := by
 intro w0 ρ0 R0 N act w hi
 unfold zbeh
 split
 ·rename_i g cs hr
  split
  ·rename_i e lo hc
   obtain ⟨ρ, st, hs⟩ := hi
   have hr' : (zaf R)[a.1]? = some (.live ⟨g, cs.length, false, cs.map TB.raw⟩) := zeg hr
   have hlt : a.1 < R.length := (qh.1 hr).1
   have hrl : (zaf R).length = R.length := by simp [zaf]
   have s0 := Step.fresh st.mem 1
   have s1 := Step.make0 (r := (zaf R).length) (rt := ⟨0, sz a.2.2, true, []⟩) s0.mem (by simp) rfl
   have e1 : (zaf R ++ List.replicate 1 Ent.fresh).set (zaf R).length (.live ⟨0, sz a.2.2, true, []⟩) = zaf R ++ [.live ⟨0, sz a.2.2, true, []⟩] := by simp
   rw [e1] at s1
   have hend : (zaf R ++ [Ent.live ⟨0, sz a.2.2, true, []⟩])[R.length]? = some (.live ⟨0, sz a.2.2, true, []⟩) := by rw [kl (by omega), hrl]; simp
   have e2 : zaf (R.set a.1 (.live (.rcd g (cs.set a.2.1 (.rf R.length 0 0 0)))) ++ [.live (.row 0 a.2.2 [])]) = (zaf R ++ [Ent.live ⟨0, sz a.2.2, true, []⟩]).set a.1 (.live ⟨g, cs.length, false, (cs.map TB.raw).set a.2.1 (.rf R.length 0 0 0)⟩) := by
    rw [List.set_append_left _ _ (by omega)]
    simp only [zaf, List.map_append, List.map_set, TEnt.raw, TRoot.raw, qy, TB.raw]
    rfl
   have s2 := Step.weak2 (R' := (zaf R ++ [Ent.live ⟨0, sz a.2.2, true, []⟩]).set a.1 (.live ⟨g, cs.length, false, (cs.map TB.raw).set a.2.1 (.rf R.length 0 0 0)⟩)) ⟨by simp, fun i x y hx hy => by
    by_cases hi : a.1 = i
    ·subst hi
     rw [kn (by omega), hr'] at hx
     cases hx
     rw [List.getElem?_set_self (by simp; omega)] at hy
     cases hy
     refine .inr ⟨_, _, rfl, rfl, rfl, rfl, rfl, rfl, by simp, fun k x y hx hy z hz => ?_⟩
     simp only at hx hy
     by_cases hk : a.2.1 = k
     ·subst hk
      rw [qn, hc] at hx
      cases hx
      rw [List.getElem?_set_self (by simpa using (qh.1 hc).1)] at hy
      cases hy
      obtain ⟨ad, cap, rfl, hn, hex, _⟩ := hz
      have hc0 : cap = 0 := hex rfl
      subst hc0
      refine ⟨⟨ad, 0, rfl⟩, _, hend, (fun h => by cases h), fun rt hrt => ?_⟩
      cases hrt
      exact ⟨qi _, fun _ => ⟨ad, 0, rfl, qi _, zpp _, rfl, Nat.zero_le _, .inl rfl⟩⟩
     ·rw [kh hk] at hy
      rw [hx] at hy
      cases hy
      exact hz
    ·rw [kh hi] at hy
     rw [hx] at hy
     cases hy
     exact .inl rfl⟩ s1.mem
   rw [e2]
   exact ⟨_, st.trans (s0.trans (s1.trans s2)), hs.ext (s0.ext.trans (s1.ext.trans s2.ext))⟩
  ·exact hi
 ·exact hi
theorem zwh {s : zat} : ∀ {own : List (Nat × Nat × ETy)} {R : TTab}, zu1 s R s (za56 own R)
 | [], R => fun _ _ _ _ _ _ h => h
 | a :: l, R => fun _ _ _ _ _ _ h => zwh (own := l) (zatm h)
theorem zyf {bs : List Nat} {R : TTab} {r : Nat} : (zaf (R.mapIdx (zj1 bs R)))[r]? = (R[r]?).map fun e => (zj1 bs R r e).raw := by
 simp only [zaf, qn, List.getElem?_mapIdx, Option.map_map, Function.comp_def]
theorem zyg {bs : List Nat} {R : TTab} {ρ : Rho} {b : Nat} : Own ρ (zaf (R.mapIdx (zj1 bs R))) b → Own ρ (zaf R) b := by
 rintro ⟨r, rt, o, hr, hρ⟩
 rw [zyf] at hr
 obtain ⟨e, he, h1⟩ := qf.1 hr
 cases e with
 | live rt1 => exact ⟨r, rt1.raw, o, zeg he, hρ⟩
 | _ => cases h1
theorem zn7 {φ : Nat → Nat → Option (Nat × Nat)} {g : Nat} (rt : TRoot) : (rt.mapR φ g).raw.g = g ∧ (rt.mapR φ g).raw.es = rt.raw.es ∧ (rt.mapR φ g).raw.row = rt.raw.row ∧ (rt.mapR φ g).raw.cells.length = rt.raw.cells.length := by
 cases rt <;> simp [TRoot.mapR, TRoot.raw]
theorem za4s {bs : List Nat} {R : TTab} {w : World} {ρ : Rho} {r g r' g' : Nat} (hb : zhl bs R r g = some (r', g')) {Q : Root → Prop} (hQ : ∀ rt rt' : Root, rt'.es = rt.es → rt'.row = rt.row → rt'.cells.length = rt.cells.length → Q rt → Q rt')
  (h : ∃ e, (zaf R)[r]? = some e ∧ e ≠ .fresh ∧ ∀ rt, e = .live rt → g ≤ rt.g ∧ (rt.g = g → Q rt)) :
  r' = r ∧ ∃ e, (zaf (R.mapIdx (zj1 bs R)))[r]? = some e ∧ e ≠ .fresh ∧ ∀ rt, e = .live rt → g' ≤ rt.g ∧ (rt.g = g' → Q rt) := by
 obtain ⟨e, he, hf, hl⟩ := h
 have he' := he
 simp only [zaf, qn] at he'
 obtain ⟨te, hte, rfl⟩ := qf.1 he'
 have hget : (zaf (R.mapIdx (zj1 bs R)))[r]? = some (zj1 bs R r te).raw := by rw [zyf, hte]; rfl
 unfold zhl at hb
 split at hb
 ·rename_i hc
  cases hb
  refine ⟨rfl, _, hget, ?_, fun rt hrt => ?_⟩
  ·cases te <;> simp_all [zj1, TEnt.raw]
  ·cases te with
   | live rt1 =>
    cases hrt
    simp only [hc, qj, if_false]
    obtain ⟨m1, m2, m3, m4⟩ := zn7 (φ := zhl bs R) (g := rt1.g) rt1
    obtain ⟨h1, h2⟩ := hl _ rfl
    rw [ztb] at h1 h2
    rw [m1]
    exact ⟨h1, fun hh => hQ _ _ m2 m3 m4 (h2 hh)⟩
   | _ => cases hrt
 ·rename_i rt1 hc hr1
  rw [hte] at hr1
  cases hr1
  split at hb
  ·rename_i hg
   cases hb
   subst hg
   refine ⟨rfl, _, hget, (fun h => by cases h), fun rt hrt => ?_⟩
   cases hrt
   simp only [hc, if_true]
   obtain ⟨m1, m2, m3, m4⟩ := zn7 (φ := zhl bs R) (g := max rt1.g 1) rt1
   obtain ⟨h1, h2⟩ := hl _ rfl
   rw [ztb] at h1 h2
   rw [m1]
   exact ⟨qi _, fun _ => hQ _ _ m2 m3 m4 (h2 rfl)⟩
  ·cases hb
 ·cases hb
theorem zao8 {bs : List Nat} {R : TTab} {w : World} {ρ : Rho} : ∀ (x : TB) {y : Value}, RB w ρ (zaf R) x.raw y → RB w ρ (zaf (R.mapIdx (zj1 bs R))) (x.mapR (zhl bs R)).raw y := by
 have stab : ∀ lo b, zbw lo w ρ (zaf R) b → zbw lo w ρ (zaf (R.mapIdx (zj1 bs R))) b := fun lo b h => ⟨⟨h.1.1, fun ho => h.1.2 (zyg ho)⟩, h.2⟩
 have pt : ∀ {p q : Nat × Nat × Nat} {y : Value}, (zhl bs R p.1 p.2.1).map (fun q => (q.1, q.2, p.2.2)) = some q → RP w ρ (zaf R) p y → RP w ρ (zaf (R.mapIdx (zj1 bs R))) q y := by
  rintro ⟨r, g, fo⟩ q y hq ⟨hsh, h⟩
  obtain ⟨⟨r', g'⟩, hb, rfl⟩ := qf.1 hq
  obtain ⟨rfl, h2⟩ := za4s (w := w) (ρ := ρ) (Q := fun _ => ∃ b o, ρ r = some (b, o) ∧ y = .pointer (some ⟨b, o + fo, none⟩)) hb (fun _ _ _ _ _ h => h) h
  exact ⟨hsh, h2⟩
 have rfq : ∀ {rt rt' : Root} {gh : Gh} {off len : Nat} {y : Value}, rt'.es = rt.es → rt'.row = rt.row → rt'.cells.length = rt.cells.length → RfOK w gh rt off len y → RfOK w gh rt' off len y := by
  rintro rt rt' gh off len y e1 e2 e3 ⟨a, cap, h1, h2, h3, h4, h5, h6⟩
  exact ⟨a, cap, h1, h2, by rw [e1]; exact h3, by rw [e2]; exact h4, by rw [e1, e3]; exact h5, by rw [e1]; exact h6⟩
 intro x y h
 cases x with
 | rf r g off len =>
  obtain ⟨hsh, h⟩ := h
  simp only [TB.mapR]
  cases hb : zhl bs R r g with
  | none => trivial
  | some q =>
   obtain ⟨rfl, h2⟩ := za4s (w := w) (ρ := ρ) (Q := fun rt => RfOK w (ρ r) rt off len y) hb (fun _ _ e1 e2 e3 h => rfq e1 e2 e3 h) h
   exact ⟨hsh, h2⟩
 | pe r g e i fo =>
  simp only [TB.mapR]
  cases hb : zhl bs R r g with
  | none => trivial
  | some q => exact pt (p := (r, g, i * sz e + fo)) (q := (q.1, q.2, i * sz e + fo)) (by simp [hb]) h
 | pf r g fo =>
  simp only [TB.mapR]
  cases hb : zhl bs R r g with
  | none => trivial
  | some q => exact pt (p := (r, g, fo)) (q := (q.1, q.2, fo)) (by simp [hb]) h
 | clo f ps =>
  obtain ⟨ys, e, hl, hy⟩ := h
  simp only [TB.mapR]
  cases hq : zi1 (fun p : Nat × Nat × Nat => (zhl bs R p.1 p.2.1).map fun q => (q.1, q.2, p.2.2)) ps with
  | none => trivial
  | some qs =>
   obtain ⟨h1, h2⟩ := zob hq
   exact ⟨ys, e, h1.trans hl, fun i q z hz hzy => by
    obtain ⟨p, hp, hpq⟩ := h2 i q hz
    exact pt hpq (hy i p z hp hzy)⟩
 | ro e xs ex lo =>
  obtain ⟨a, cap, e1, hn, hex, hc⟩ := h
  exact ⟨a, cap, e1, hn, hex, hc.imp id fun ⟨ad, ha, hs, hr⟩ => ⟨ad, ha, stab _ _ hs, zgh (fun l b hb => ⟨stab _ _ hb, rfl⟩) rfl hr⟩⟩
 | pr e xs i fo lo =>
  obtain ⟨ad, e1, hs, hr⟩ := h
  exact ⟨ad, e1, stab _ _ hs, zgh (fun l b hb => ⟨stab _ _ hb, rfl⟩) rfl hr⟩
 | _ => exact h
theorem za4r {bs : List Nat} {R : TTab} {w : World} {ρ : Rho} (x : TG) {y : Value} (h : RG w ρ (zaf R) x.raw y) : RG w ρ (zaf (R.mapIdx (zj1 bs R))) (x.mapR (zhl bs R)).raw y := by
 cases x with
 | b x => exact zao8 x h
 | ag xs =>
  obtain ⟨ys, rfl, hl, hr⟩ := h
  refine ⟨ys, rfl, by simpa using hl, fun i x z hx hz => ?_⟩
  simp only [qn] at hx
  obtain ⟨x1, hx1, rfl⟩ := qf.1 hx
  obtain ⟨x0, hx0, rfl⟩ := qf.1 hx1
  exact zao8 x0 (hr i _ z (by rw [qn, hx0]; rfl) hz)
theorem zao9 {bs : List Nat} {R : TTab} {w : World} {ρ : Rho} {xs : List TG} {ys : List Value} (h : RGs w ρ (zaf R) (xs.map TG.raw) ys) : RGs w ρ (zaf (R.mapIdx (zj1 bs R))) ((xs.map (TG.mapR (zhl bs R))).map TG.raw) ys := by
 obtain ⟨hl, hr⟩ := h
 refine ⟨by simpa using hl, fun i x z hx hz => ?_⟩
 simp only [qn] at hx
 obtain ⟨x1, hx1, rfl⟩ := qf.1 hx
 obtain ⟨x0, hx0, rfl⟩ := qf.1 hx1
 exact za4r x0 (hr i _ z (by rw [qn, hx0]; rfl) hz)
theorem zbi6 {bs : List Nat} {R : TTab} {w : World} {ρ : Rho} (x : TV) {y : Value} (h : RV w ρ (zaf R) x.raw y) : RV w ρ (zaf (R.mapIdx (zj1 bs R))) (x.mapR (zhl bs R)).raw y := by
 cases x with
 | g x => exact za4r x h
 | cl f caps => obtain ⟨ys, e, hs⟩ := h; exact ⟨ys, e, zao9 hs⟩
 | tp xs => obtain ⟨ys, e, hs⟩ := h; exact ⟨ys, e, zao9 hs⟩
theorem zax6 {bs : List Nat} {s : zat} {R : TTab} : zu1 s R (zbcf bs R s) (zbcg bs R) := by
 cases bs with
 | nil => exact fun _ _ _ _ _ _ h => h
 | cons b0 bs0 =>
  generalize hbs : b0 :: bs0 = bs
  intro w0 ρ0 R0 N act w hi
  have e1 : zbcg bs R = R.mapIdx (zj1 bs R) := by subst hbs; rfl
  have e2 : zbcf bs R s = s.map fun p => (p.1, p.2.mapR (zhl bs R)) := by subst hbs; rfl
  rw [e1, e2]
  obtain ⟨ρ, st, hs⟩ := hi
  have s1 : Step w ρ (zaf R) w ρ (zaf (R.mapIdx (zj1 bs R))) := by
   refine Step.weak3 ⟨by simp [zaf], fun r e e' he he' => ?_⟩ st.mem
   rw [zyf] at he'
   simp only [zaf, qn] at he
   obtain ⟨te, hte, rfl⟩ := qf.1 he
   rw [hte] at he'
   cases he'
   cases te with
   | live rt =>
    obtain ⟨m1, m2, m3, m4⟩ := zn7 (φ := zhl bs R) (g := if bs.contains r then max rt.g 1 else rt.g) rt
    refine .inr ⟨_, _, rfl, rfl, ?_, m2, m3, fun hrow => ?_, ?_⟩
    ·rw [m1, ztb]; split <;> omega
    ·cases rt with
     | row g e xs => rfl
     | rcd g cs => cases hrow
    ·cases rt with
     | row g e xs =>
      refine ⟨rfl, fun i x x' hx hx' y hy => ?_⟩
      simp only [TRoot.raw, TRoot.mapR] at hx hx'
      rw [hx] at hx'
      cases hx'
      have hc := qt.1 (zfq (e := e) (xs := xs)).1 x (qp hx)
      cases x with
      | v z => exact hy
      | ro n cs ex lo =>
       obtain ⟨a, cap, e1, hn, hex, hc⟩ := hy
       exact ⟨a, cap, e1, hn, hex, hc.imp id fun ⟨ad, ha, hs, hr⟩ => ⟨ad, ha, ⟨⟨hs.1.1, fun ho => hs.1.2 (zyg ho)⟩, hs.2⟩, zgh (fun l b hb => ⟨⟨⟨hb.1.1, fun ho => hb.1.2 (zyg ho)⟩, hb.2⟩, rfl⟩) rfl hr⟩⟩
      | _ => cases hc
     | rcd g cs =>
      refine ⟨by simp [TRoot.raw, TRoot.mapR], fun i x x' hx hx' y hy => ?_⟩
      simp only [TRoot.raw, TRoot.mapR, qn] at hx hx'
      obtain ⟨x0, hx0, rfl⟩ := qf.1 hx
      rw [hx0] at hx'
      cases hx'
      exact zao8 x0 hy
   | _ => exact .inl ⟨rfl, fun rt h => by cases h⟩
  refine ⟨ρ, st.trans s1, hs.defers, hs.size, fun t v hv => ?_⟩
  have hl : look (zas (s.map fun p => (p.1, p.2.mapR (zhl bs R)))) t = (ziz s t).map fun v => (v.mapR (zhl bs R)).raw := by
   clear hs hv e2
   induction s with
   | nil => rfl
   | cons p s ih =>
    simp only [zas, qu, look, ziz] at ih ⊢
    split
    ·rfl
    ·exact ih
  rw [hl] at hv
  obtain ⟨v0, hv0, rfl⟩ := qf.1 hv
  exact zbi6 v0 (hs.val t _ (by rw [zeo, hv0]; rfl))
theorem LSh.dec_inv {l : LSh} {s : zat} {R : TTab} {v : l.A} (h : (l.dec s R).run = some v) : zu1 s R (l.st v).1 (l.st v).2 := by
 unfold LSh.dec at h
 split at h
 ·rename_i p hp
  split at h
  ·rename_i u hu
   obtain ⟨hC, h⟩ := zgu h
   simp only [T.run, qc] at h
   subst h
   have e1 : (l.st (PD.mk l.r p.2 u.2)).2 = encR l.r u.2 := by unfold LSh.st; rw [PD.snd_mk]
   have e2 : (l.st (PD.mk l.r p.2 u.2)).1 = zbk (zafk (zbd l.r u.2)) l.s p.2 := by unfold LSh.st; rw [PD.fst_mk, PD.snd_mk]
   rw [e1, e2]
   exact fun _ _ _ _ _ _ h => Gm.dec_inv hp hu hC (zwh (zax6 h))
  ·cases h
 ·cases h
theorem Ex.same_eq {a b : Ex} (h : a.same b = true) : a = b := by
 cases a <;> cases b <;> simp [Ex.same] at h
 ·rfl
 ·subst h; rfl
 ·rfl
theorem OSh.dec_inv {o : OSh} {x : Ex × zat × TTab} {cs : List Bool} {v : o.den} (h : o.dec x = some (cs, v)) (hC : allC cs) : x.1 = (o.emb v).1 ∧ zu1 x.2.1 x.2.2 (o.emb v).2.1 (o.emb v).2.2 := by
 unfold OSh.dec at h
 split at h
 ·rename_i he
  split at h
  ·rename_i p hp
   split at h
   ·rename_i u hu
    simp only [qc, qr] at h
    obtain ⟨rfl, rfl⟩ := h
    have e1 : (o.emb (PD.mk o.r p.2 u.2)).2.2 = encR o.r u.2 := by unfold OSh.emb; rw [PD.snd_mk]
    have e2 : (o.emb (PD.mk o.r p.2 u.2)).2.1 = zbk (zafk (zbd o.r u.2)) o.s p.2 := by unfold OSh.emb; rw [PD.fst_mk, PD.snd_mk]
    rw [e1, e2]
    exact ⟨(Ex.same_eq he).symm, Gm.dec_inv hp hu hC⟩
   ·cases h
  ·cases h
 ·cases h
theorem zk0 : ∀ {l : List OSh} {x : Ex × zat × TTab} {o : SumD OSh.den l}, (znu l x).run = some o → x.1 = (outS OSh.emb l o).1 ∧ zu1 x.2.1 x.2.2 (outS OSh.emb l o).2.1 (outS OSh.emb l o).2.2
 | [], x, o, h => by cases h
 | [s], x, o, h => by
  simp only [znu] at h
  cases hd : s.dec x with
  | none => rw [hd] at h; cases h
  | some v =>
   rw [hd] at h
   obtain ⟨hc, h⟩ := zgu h
   simp only [T.run, qc] at h
   subst h
   exact OSh.dec_inv (cs := v.1) hd hc
 | s :: s2 :: t, x, o, h => by
  simp only [znu] at h
  split at h
  ·rename_i v hd
   obtain ⟨hc, h⟩ := zgu h
   simp only [T.run, qc] at h
   subst h
   exact OSh.dec_inv (cs := v.1) hd hc
  ·obtain ⟨v, h1, h2⟩ := T.bind_run h
   simp only [T.run, qc] at h2
   subst h2
   exact zk0 (l := s2 :: t) h1
theorem zak {E : TEnv} (hE : E.OK) {told : Nat → Option zal} {m : Nat} {c : Code} {l : LSh} {step : l.A → T (l.A ⊕ l.B)} (hloops : zfx E.P m told c)
  (hout : l.outs.all (fun o => !o.ex.same .norm) = true) (hround : ∀ v, (zat2 E told m l.keep c (l.st v).1 (l.st v).2).bind l.rd = step v) : zan E.P m c (l.told m step) := by
 refine zbex (dec := l.dec) (st := l.st) (rd := l.rd) (step := step) (out := outS OSh.emb l.outs) (cs := csS OSh.emb l.outs) hE.mix hE.lib hE.fn hloops (fun s R v h => LSh.dec_inv h) ?_ (fun o x h => zym _ _ _ _ h) ?_ hround
 ·intro x r h
  unfold LSh.rd at h
  split at h
  ·rename_i hx
   obtain ⟨v, h1, h2⟩ := T.bind_run h
   simp only [T.run, qc] at h2
   subst h2
   exact ⟨hx, LSh.dec_inv h1⟩
  ·obtain ⟨v, h1, h2⟩ := T.bind_run h
   simp only [T.run, qc] at h2
   subst h2
   exact zk0 h1
 ·have key : ∀ (os : List OSh) (o : SumD OSh.den os), os.all (fun o => !o.ex.same .norm) = true → (outS OSh.emb os o).1 ≠ .norm := by
   intro os
   induction os with
   | nil => intro o; exact nomatch o
   | cons a t ih =>
    intro o h
    rw [List.all_cons, qo] at h
    have ha : a.ex ≠ .norm := by intro e; rw [e] at h; simp [Ex.same] at h
    cases t with
    | nil => exact ha
    | cons b t =>
     cases o with
     | inl x => exact ha
     | inr y => exact ih y h.2
  exact fun o => key _ o hout
def zpz (P : Program) (m : Nat) (told : Nat → Option zal) : List Code → Prop
 | [] => True
 | l :: r => (told (zc3 l) = none ∨ ∃ L, told (zc3 l) = some L ∧ zan P m l L) ∧ zpz P m told r
theorem z3i {P : Program} {m : Nat} {told : Nat → Option zal} {c : Code} {ls : List Code} (h : zfz c = ls) (hall : zpz P m told ls) : ∀ l ∈ zfz c, ∀ L, told (zc3 l) = some L → zan P m l L := by
 intro l hl L hL
 rw [h] at hl
 clear h
 induction ls with
 | nil => cases hl
 | cons x r ih =>
  obtain ⟨h1, h2⟩ := hall
  rcases List.mem_cons.1 hl with rfl | hl
  ·rcases h1 with h1 | ⟨L', h1, h3⟩
   ·rw [h1] at hL; cases hL
   ·rw [h1] at hL; cases hL; exact h3
  ·exact ih h2 hl
def zbjs (told : Nat → Option zal) (c : Code) : Bool := (zj4 c).all fun l => (zaek told l).isNone
theorem zab {P : Program} {m : Nat} {told : Nat → Option zal} {c : Code} {ls : List Code} (h : zfz c = ls) (hall : zpz P m told ls) (hc : zbjs told c = true := by kernel_rfl) : zfx P m told c := by
 refine ⟨z3i h hall, fun l hl L hL => ?_⟩
 have := qt.1 hc l hl
 rw [hL] at this
 cases this
def zafv (P : Program) (m : Nat) (told : Nat → Option zal) : List Code → Prop
 | [] => True
 | l :: r => (zaek told l = none ∨ ∃ L, zaek told l = some L ∧ zlf P m l L) ∧ zafv P m told r
theorem za4 {P : Program} {m : Nat} {told : Nat → Option zal} {c : Code} {ls cs : List Code} (h : zfz c = ls) (hall : zpz P m told ls) (hc : zj4 c = cs) (hcuts : zafv P m told cs) : zfx P m told c := by
 refine ⟨z3i h hall, fun l hl L hL => ?_⟩
 rw [hc] at hl
 clear hc
 induction cs with
 | nil => cases hl
 | cons x r ih =>
  obtain ⟨h1, h2⟩ := hcuts
  rcases List.mem_cons.1 hl with rfl | hl
  ·rcases h1 with h1 | ⟨L', h1, h3⟩
   ·rw [h1] at hL; cases hL
   ·rw [h1] at hL; cases hL; exact h3
  ·exact ih h2 hl
def LSh.cut (l : LSh) (m : Nat) (head : List (Nat × Option ETy)) (F : l.A → Option l.B) : zal := cutT m head l.dec F (csS OSh.emb l.outs)
theorem zio {E : TEnv} (hE : E.OK) {told : Nat → Option zal} {m : Nat} {c : Code} {l : LSh} {head : List (Nat × Option ETy)} {F : l.A → T l.B} (hloops : zfx E.P m told c)
  (hround : ∀ v, (zat2 E told m l.keep c (l.st v).1 (l.st v).2).bind (znu l.outs) = F v) : zlf E.P m c (l.cut m head fun v => (F v).run) := by
 intro s R ex s' R' h w0 ρ0 R0 N a w Q hlive hm hf hi hQ
 obtain ⟨⟨s1, R1⟩, h1, h2⟩ := T.bind_run h
 obtain ⟨v, hv, h3⟩ := T.bind_run h2
 simp only [T.run] at h3
 obtain ⟨o, ho, h4⟩ := qx.1 h3
 have h4 := (zym _ _ _ _ h4).symm
 have hi1 := LSh.dec_inv hv (ziw hlive hm h1 hi)
 rw [← hround v] at ho
 obtain ⟨⟨ex1, s3, R3⟩, hrun, hr⟩ := T.bind_run ho
 obtain ⟨⟨ex2, s2, R2⟩, k1, k2⟩ := T.bind_run hrun
 have hc := zbq hE.mix hE.lib hE.fn hloops k1
 obtain ⟨⟨s4, R4⟩, k3, k4⟩ := T.bind_run k2
 simp only [T.run, qc, qr] at k4
 obtain ⟨rfl, rfl, rfl⟩ := k4
 obtain ⟨e, hto⟩ := zk0 hr
 refine hc hlive hm hf hi1 fun a' w' hi' => ?_
 have hi2 := hto (ziw hlive hm k3 hi')
 rw [h4] at e hi2
 simp only at e hi2
 rw [e]
 exact hQ a' w' hi2
def zad : Code → List Nat → Code
 | c, [] => c
 | c, i :: r => zad (match (zfz c)[i]? with | some l => l | none => .skip) r
def zaq (c : Code) (i : Nat) : Code := match (zj4 c)[i]? with | some l => l | none => .skip
def zac (fn : Func) : Code := match fn.body with | some c => c | none => .skip
abbrev w64 (z : Int) : Int := IntKind.i64.wrap z
abbrev wu64 (z : Int) : Int := IntKind.u64.wrap z
abbrev wu8 (z : Int) : Int := IntKind.u8.wrap z
end Go.Gm
