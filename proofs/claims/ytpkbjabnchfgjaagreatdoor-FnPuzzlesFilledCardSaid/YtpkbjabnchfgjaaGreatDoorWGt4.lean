import Derived.Test.YtpkbjabnchfgjaaGreatDoorWGt3
import Derived.Laws.StructEq
namespace Go.Gm
set_option linter.unusedSimpArgs false
set_option linter.unusedVariables false
section
variable {P : Program} {ev : Operand → Option TV} {ev' : Operand → Option V}
theorem za6 {α β : Type} : ∀ (s : Sem α) (f : α → Sem β), zbb P (s >>= f) = (zbb P s).bind fun a => zbb P (f a)
 | .pure a, f => rfl
 | .program k, f => za6 (k P) f
 | .mark m k, f => za6 k f
 | .load .., f | .store .., f | .new .., f | .shape .., f | .freeze .., f | .frozen .., f | .getObj .., f | .setObj .., f | .choose .., f | .sys .., f | .halt .., f => rfl
theorem z3r {x : Value} {y : TB} (h : za1q x = some y) : y.raw = zor x := by
 unfold za1q at h
 split at h <;> first
  | (cases h; rfl)
  | (split at h
     ·rename_i f first caps hc
      cases h
      rw [kv hc.1, kv hc.2]; rfl
     ·cases h)
  | cases h
theorem zjp : ∀ {l : List Value} {ys : List TB}, zwf l = some ys → ys.map TB.raw = l.map zor
 | [], ys, h => by simp only [zwf, qc] at h; subst h; rfl
 | x :: xs, ys, h => by
  simp only [zwf] at h
  split at h
  ·rename_i y ys' h1 h2
   cases h
   simp [z3r h1, zjp h2]
  ·cases h
theorem z3q {x : Value} {v : TV} (h : zzq x = some v) : zn9 x = v.raw := by
 unfold zzq at h
 split at h
 ·rename_i cs
  obtain ⟨l, hl, rfl⟩ := qf.1 h
  simp [zn9, TV.raw, TG.raw, zjp hl]
 ·rename_i hn
  obtain ⟨y, hy, rfl⟩ := qf.1 h
  simp only [TV.raw, TG.raw, z3r hy]
  unfold zn9
  split
  ·rename_i cs; exact absurd rfl (hn cs)
  ·rfl
theorem zbco {s : Nat → Option TV} {s' : Nat → Option V} (h : ∀ t v, s t = some v → s' t = some v.raw) : EvR (evT s) (evOf s') := by
 intro x v hv
 cases x with
 | tmp t => exact h t v hv
 | const y => simp only [evT] at hv; simp only [evOf, z3q hv]
 | global g => cases hv
 | func f => simp only [evT, qc] at hv; subst hv; rfl
theorem conc_raw {x : TB} {v : Value} (h : x.conc = some v) : x.raw.conc = some v := by
 cases x <;> simp [TB.conc] at h <;> simp [TB.raw, B.conc, h]
theorem z1y : ∀ {xs : List TB} {vs : List Value}, z1x xs = some vs → zkz (xs.map TB.raw) = some vs
 | [], vs, h => by simp only [z1x, qc] at h; subst h; rfl
 | x :: xs, vs, h => by
  simp only [z1x] at h
  split at h
  ·rename_i v vs' h1 h2
   cases h
   simp [zkz, conc_raw h1, z1y h2]
  ·cases h
theorem TV.conc_raw {x : TV} {v : Value} (h : x.conc = some v) : x.raw.conc = some v := by
 cases x with
 | g x =>
  cases x with
  | b x => exact Go.Gm.conc_raw h
  | ag xs =>
   simp only [TV.conc] at h
   obtain ⟨l, hl, rfl⟩ := qf.1 h
   simp [TV.raw, TG.raw, V.conc, G.conc, z1y hl]
 | cl f caps => cases h
 | tp xs => cases h
theorem zch (hev : EvR ev ev') {x : Operand} {v : TV} {y : Value} (h : ev x = some v) (hy : v.conc = some y) : zde ev' x = y ∧ ((ev' x).bind V.conc).isSome = true ∧ zsu ev x = y := by
 have e1 : (ev' x).bind V.conc = some y := by rw [hev x v h]; exact TV.conc_raw hy
 have e2 : (ev x).bind TV.conc = some y := by rw [h]; exact hy
 exact ⟨by simp [zde, e1], by rw [e1]; rfl, by simp [zsu, e2]⟩
theorem zce : ∀ {l : List Operand}, zhj ev l = true → ∀ x ∈ l, ∃ v y, ev x = some v ∧ v.conc = some y
 | [], _, x, hx => by cases hx
 | y :: ys, h, x, hx => by
  simp only [zhj, qo] at h
  rcases List.mem_cons.1 hx with rfl | hx
  ·obtain ⟨z, hz⟩ := Option.isSome_iff_exists.1 h.1
   obtain ⟨v, hv, hc⟩ := qx.1 hz
   exact ⟨v, z, hv, hc⟩
  ·exact zce h.2 x hx
theorem zvk : ∀ {l : List Operand}, (∀ x ∈ l, ((ev' x).bind V.conc).isSome = true) → zhi ev' l = true
 | [], _ => rfl
 | y :: ys, h => by
  simp only [zhi, qo]
  exact ⟨h y (by simp), zvk fun x hx => h x (qv _ hx)⟩
theorem z3y {o : Oper} {y : Value} (hall : ∀ x ∈ o.op.operands.toList, ((ev' x).bind V.conc).isSome = true) (hns : ∀ cs b, o.op ≠ .select cs b) (hrun : zbb P (execOp (zde ev') o) = some (.value y)) : zc6 P o ev' = some (lift y) := by
 unfold zc6
 rw [if_pos (zvk hall)]
 split
 ·rename_i heq; exact absurd heq (hns _ _)
 ·rw [hrun]
theorem z3g {x : Value} {y : TB} (h : za0x x = some y) : y.raw = .v x ∧ ∀ cs, x ≠ .agg cs := by
 unfold za0x at h
 split at h <;> first
  | (cases h; exact ⟨rfl, fun cs h => by cases h⟩)
  | (split at h
     ·rename_i f first caps hc
      cases h
      rw [kv hc.1, kv hc.2]; exact ⟨rfl, fun cs h => by cases h⟩
     ·cases h)
  | cases h
theorem zwb : ∀ {l : List Value} {ys : List TB}, z3h l = some ys → ys.map TB.raw = l.map B.v
 | [], ys, h => by simp only [z3h, qc] at h; subst h; rfl
 | x :: xs, ys, h => by
  simp only [z3h] at h
  split at h
  ·rename_i y ys' h1 h2
   cases h
   simp [(z3g h1).1, zwb h2]
  ·cases h
theorem zasl {x : Value} {v : TV} (h : zbc3 x = some v) : lift x = v.raw := by
 unfold zbc3 at h
 split at h
 ·rename_i cs
  obtain ⟨l, hl, rfl⟩ := qf.1 h
  simp [lift, za0y, TV.raw, TG.raw, zwb hl]
 ·rename_i hn
  obtain ⟨y, hy, rfl⟩ := qf.1 h
  obtain ⟨h1, h2⟩ := z3g hy
  simp only [TV.raw, TG.raw, h1, lift]
  unfold za0y
  split
  ·rename_i cs; exact absurd rfl (hn cs)
  ·rfl
theorem zft {o : Oper} (hev : EvR ev ev') : Sim (zl9 P o ev) (Pr.ofOpt (zc6 P o ev')) TV.raw := by
 unfold zl9
 refine Sim.iteF fun hall => ?_
 split
 ·exact Sim.fail
 ·rename_i hns
  have hc : ∀ x ∈ o.op.operands, zsu ev x = zde ev' x := fun x hx => by
   obtain ⟨v, y, h1, h2⟩ := zce hall x (Array.mem_toList_iff.2 hx)
   obtain ⟨a, _, c⟩ := zch hev h1 h2
   rw [a, c]
  have he : execOp (zsu ev) o = execOp (zde ev') o := execOp_congr o (fun cs b hs => hns cs b hs) hc
  split
  ·rename_i y hy
   rw [he] at hy
   refine Sim.ofOpt fun a ha => ?_
   rw [z3y (fun x hx => by
    obtain ⟨v, y, h1, h2⟩ := zce hall x hx
    exact (zch hev h1 h2).2.1) (fun cs b hs => hns cs b hs) hy, zasl ha]
  ·exact Sim.fail
theorem zuj {o : Oper} {x : TB} {y : Value} (hall : ∀ z ∈ o.op.operands.toList, ((ev' z).bind V.conc).isSome = true) (hns : ∀ cs b, o.op ≠ .select cs b) (hrun : zbb P (execOp (zde ev') o) = some (.value y)) (hxy : x.raw = .v y) (hna : ∀ cs, y ≠ .agg cs) :
  Sim (.ret (.g (.b x))) (Pr.ofOpt (zc6 P o ev')) TV.raw := by
 rw [z3y hall hns hrun]
 refine Sim.ret ?_
 simp only [TV.raw, TG.raw, hxy, lift]
 unfold za0y
 split
 ·rename_i cs; exact absurd rfl (hna cs)
 ·rfl
theorem zafu {x y : TB} {r : Bool} (h : zw4 x y = some r) : ∃ a b, x.raw.conc = some a ∧ y.raw.conc = some b ∧ z4y a b = some r := by
 have hs : ∀ a b : List UInt8, ((⟨a.toArray⟩ : ByteArray) == ⟨b.toArray⟩) = (a == b) := fun a b => (beq_toListBytes _ _).trans (by rw [ByteArray.toList_mk, ByteArray.toList_mk])
 cases x <;> cases y <;> try (simp [zw4] at h; done)
 case int.int k a k' b =>
  simp [zw4] at h
  obtain ⟨rfl, rfl⟩ := h
  exact ⟨_, _, rfl, rfl, by simp [z4y]⟩
 case str.str a b =>
  simp [zw4] at h
  subst h
  refine ⟨_, _, rfl, rfl, ?_⟩
  show some _ = some _
  rw [hs]
 all_goals
  simp [zw4] at h
  subst h
  exact ⟨_, _, rfl, rfl, by simp [z4y]⟩
theorem zpk {t : TypeId} {x : TB} {a : Value} (h : zp9 P t x = true) (ha : x.raw.conc = some a) : zf1 P t a = true := by
 unfold zp9 at h
 split at h
 ·rename_i hu; cases ha; simp [zf1, hu]; simpa using h
 ·rename_i hu; cases ha; simp [zf1, hu]
 ·rename_i hu; cases ha; simp [zf1, hu]
 ·rename_i hu; cases ha; simp [zf1, hu]
 ·cases h
theorem zho {xs ys : List TB} : ∀ {fs : List Field} {r : Bool}, zgm P xs ys fs = some r → zel P (xs.map TB.raw) (ys.map TB.raw) fs = some r
 | [], r, h => h
 | f :: fs, r, h => by
  simp only [zgm] at h
  split at h
  ·rename_i a b ha hb
   split at h
   ·rename_i hc
    split at h
    ·rename_i t u ht hu
     cases h
     obtain ⟨va, vb, h1, h2, h3⟩ := zafu ht
     simp only [zel, qn, ha, hb, Option.map_some, qa, h1, h2]
     rw [if_pos ⟨hc.1, zpk hc.2.1 h1, zpk hc.2.2 h2⟩, h3, zho hu]
    ·cases h
   ·cases h
  ·cases h
end
end Go.Gm
