import Derived.Test.YtpkbjabnchfgjaaGreatDoorWGt4
namespace Go.Gm
set_option linter.unusedSimpArgs false
set_option linter.unusedVariables false
section
variable {P : Program} {ev : Operand → Option TV} {ev' : Operand → Option V}
@[simp] theorem zc7 {α : Type} (a : α) : zbb P (Pure.pure a : Sem α) = some a := rfl
theorem zeq {t : TypeId} {d : TypeDesc} (h : P.underlying t = some d) : zbb P (underlying t) = some d := by
 have hp : zbb P program = some P := rfl
 unfold underlying
 rw [za6, hp, qa, h]
 rfl
theorem zax5 {o : Oper} {op : BinOp} {t m : TypeId} {x y : Operand} (ho : o.op = .binOp op t x y m) {a b : Value} (ha : zde ev' x = a) (hb : zde ev' y = b) (hna : ∀ cs, a ≠ .agg cs) (hni : a ≠ .nilIface) :
  zbb P (execOp (zde ev') o) = (zbb P (binOp op t a b)).map Next.value := by
 rw [zax _ o _ ho]
 have hg : zbb P (eqGuard op t x y a b) = some () := by
  cases a <;> first
   | exact absurd rfl (hna _)
   | exact absurd rfl hni
   | (cases op <;> rfl)
 simp only [execOp, ha, hb, za6, hg, qa]
 cases zbb P (binOp op t a b) <;> rfl
theorem za10 {o : Oper} {op : BinOp} {t m : TypeId} {x y : Operand} (hev : EvR ev ev') (ho : o.op = .binOp op t x y m) : Sim (binT P o ev op t x y) (zih P o ev' op t x y) TV.raw := by
 have ops : o.op.operands.toList = [x, y] := by rw [ho]; rfl
 have hns : ∀ cs b, o.op ≠ .select cs b := fun cs b h => by rw [ho] at h; cases h
 have one : ∀ {vx vy : TB} {a b : Value} {z : TB} {w : Value}, ev x = some (.g (.b vx)) → ev y = some (.g (.b vy)) → vx.conc = some a → vy.conc = some b → (∀ cs, a ≠ .agg cs) → a ≠ .nilIface → zbb P (binOp op t a b) = some w → z.raw = .v w → (∀ cs, w ≠ .agg cs) →
   Sim (.ret (.g (.b z))) (Pr.ofOpt (zc6 P o ev')) TV.raw := by
  intro vx vy a b z w hx hy ha hb hna hni hr hz hw
  obtain ⟨c1, s1, _⟩ := zch hev hx ha
  obtain ⟨c2, s2, _⟩ := zch hev hy hb
  refine zuj (fun z hz => ?_) hns (y := w) ?_ hz hw
  ·rw [ops] at hz
   simp at hz
   rcases hz with rfl | rfl
   ·exact s1
   ·exact s2
  ·rw [zax5 ho c1 c2 hna hni, hr]; rfl
 have way : ∀ {vx vy : TB}, ev x = some (.g (.b vx)) → zih P o ev' op t x y = Pr.ofOpt (zc6 P o ev') := by
  intro vx vy hx
  unfold zih
  rw [hev x _ hx]
  simp only [TV.raw, TG.raw]
 unfold binT
 split
 ·rename_i k a k' b hx hy
  rw [way (vy := .dead) hx]
  refine Sim.iteF fun hk => Sim.guard fun hd => ?_
  subst hk
  have hd := ku hd
  exact one hx hy rfl rfl (fun cs h => by cases h) (fun h => by cases h) (by simp [binOp, Op.intDiv, hd]) rfl (fun cs h => by cases h)
 ·rename_i k a k' b hx hy
  rw [way (vy := .dead) hx]
  refine Sim.iteF fun hk => Sim.guard fun hd => ?_
  subst hk
  have hd := ku hd
  exact one hx hy rfl rfl (fun cs h => by cases h) (fun h => by cases h) (by simp [binOp, Op.intDiv, hd]) rfl (fun cs h => by cases h)
 ·rename_i k a k' b hx hy
  rw [way (vy := .dead) hx]
  refine Sim.guard fun hd => Sim.iteF fun hk => ?_
  have hd := ku hd
  refine one hx hy rfl rfl (w := .int k (k.wrap (a * 2 ^ b.toNat))) (fun cs h => by cases h) (fun h => by cases h) ?_ rfl (fun cs h => by cases h)
  have h1 : ¬ b < 0 := by omega
  have h2 : min b.toNat k.bits = b.toNat := by omega
  simp [binOp, Op.shift, h1, h2]
 ·rename_i a b hx hy
  rw [way (vy := .dead) hx]
  refine Sim.guard fun hd => ?_
  have hd := ku hd
  refine one hx hy rfl rfl (w := .string ⟨(a ++ b).toArray⟩) (fun cs h => by cases h) (fun h => by cases h) ?_ rfl (fun cs h => by cases h)
  have hsz : ((⟨a.toArray⟩ : ByteArray).size + (⟨b.toArray⟩ : ByteArray).size) = a.length + b.length := rfl
  have hlim : ¬ ((((⟨a.toArray⟩ : ByteArray).size + (⟨b.toArray⟩ : ByteArray).size : Nat) : Int) > IntKind.i64.max) := by
   rw [hsz]
   have : IntKind.i64.max = 9223372036854775807 := by decide
   rw [this]
   unfold zda at hd
   omega
  have happ : (⟨a.toArray⟩ : ByteArray) ++ ⟨b.toArray⟩ = ⟨(a ++ b).toArray⟩ := by
   apply ByteArray.ext
   simp
  simp only [binOp, Op.stringOp]
  rw [if_neg hlim, happ]
  rfl
 ·rename_i a b hx hy
  rw [way (vy := .dead) hx]
  refine one hx hy rfl rfl (w := .bool (a == b)) (fun cs h => by cases h) (fun h => by cases h) ?_ rfl (fun cs h => by cases h)
  simp only [binOp, Op.stringOp, ByteArray.toList_mk]
  rfl
 ·rename_i a b hx hy
  rw [way (vy := .dead) hx]
  refine one hx hy rfl rfl (w := .bool (!(a == b))) (fun cs h => by cases h) (fun h => by cases h) ?_ rfl (fun cs h => by cases h)
  simp only [binOp, Op.stringOp, ByteArray.toList_mk]
  rfl
 ·rename_i xs ys hx hy
  have e1 := hev x _ hx
  have e2 := hev y _ hy
  simp only [TV.raw, TG.raw] at e1 e2
  unfold zih
  rw [e1, e2]
  simp only []
  cases hu : P.underlying t with
  | none => exact Sim.fail
  | some d =>
   cases d <;> try exact Sim.fail
   rename_i fs
   refine Sim.iteF fun hc => Sim.pos hc ?_
   cases he : zgm P xs ys fs.toList with
   | none => exact Sim.fail
   | some r =>
    rw [zho he]
    exact Sim.ret rfl
 ·rename_i xs ys hx hy
  have e1 := hev x _ hx
  have e2 := hev y _ hy
  simp only [TV.raw, TG.raw] at e1 e2
  unfold zih
  rw [e1, e2]
  simp only []
  cases hu : P.underlying t with
  | none => exact Sim.fail
  | some d =>
   cases d <;> try exact Sim.fail
   rename_i fs
   refine Sim.iteF fun hc => Sim.pos hc ?_
   cases he : zgm P xs ys fs.toList with
   | none => exact Sim.fail
   | some r =>
    rw [zho he]
    exact Sim.ret rfl
 ·rename_i opz op1 xa xb h1 h2 h3 h4 h5 h6 h7 h8
  by_cases hall : zhj ev o.op.operands.toList = true
  ·have hx0 := zce hall x (by rw [ops]; simp)
   have hy0 := zce hall y (by rw [ops]; simp)
   obtain ⟨vx, _, hx, _⟩ := hx0
   obtain ⟨vy, _, hy, _⟩ := hy0
   have e : zih P o ev' opz t x y = Pr.ofOpt (zc6 P o ev') := by
    have ag : ∀ {v : TV} {xs : List B}, v.raw = .g (.ag xs) → ∃ l, v = .g (.ag l) := by
     intro v xs h
     cases v with
     | g v =>
      cases v with
      | b v => simp [TV.raw, TG.raw] at h
      | ag l => exact ⟨l, rfl⟩
     | cl f c => simp [TV.raw] at h
     | tp l => simp [TV.raw] at h
    unfold zih
    rw [hev x _ hx, hev y _ hy]
    split
    ·rename_i xs ys hx' hy'
     obtain ⟨l1, rfl⟩ := ag (Option.some.inj hx')
     obtain ⟨l2, rfl⟩ := ag (Option.some.inj hy')
     exact absurd hy (h7 l1 l2 (by first | assumption | rfl) hx)
    ·rename_i xs ys hx' hy'
     obtain ⟨l1, rfl⟩ := ag (Option.some.inj hx')
     obtain ⟨l2, rfl⟩ := ag (Option.some.inj hy')
     exact absurd hy (h8 l1 l2 (by first | assumption | rfl) hx)
    ·rfl
   rw [e]
   exact zft hev
  ·have : zl9 P o ev = .fail := by unfold zl9; rw [if_neg hall]
   rw [this]; exact Sim.fail
end
end Go.Gm
