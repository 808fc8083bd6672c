import Derived.Test.YtppalpflejcjeaaGreatQGt5
namespace Go.Gm
set_option linter.unusedSimpArgs false
set_option linter.unusedVariables false
section
variable {P : Program} {ev : Operand → Option TV} {ev' : Operand → Option V}
theorem sim_unT {o : Oper} {op : UnOp} {m : TypeId} {x : Operand} (hev : EvR ev ev') (ho : o.op = .unOp op m x) : Sim (unT P o ev op x) (Pr.ofOpt (pureOp P o ev')) TV.raw := by
 unfold unT
 split
 ·rename_i t hx
  obtain ⟨c1, s1, _⟩ := concOf_raw hev hx (y := .bool t) rfl
  refine sim_one (y := .bool (!t)) (fun z hz => ?_) (fun cs b h => by rw [ho] at h; cases h) ?_ rfl (fun cs h => by cases h)
  ·rw [ho] at hz; simp [Op.operands] at hz; subst hz; exact s1
  ·rw [execOp_mk _ o _ ho]
   simp only [execOp, c1, runPure_bind]
   rfl
 ·exact sim_pureT hev
theorem sim_indexT {o : Oper} {t : TypeId} {x i : Operand} (hev : EvR ev ev') (ho : o.op = .index t x i) : Sim (indexT P ev t x i) (Pr.ofOpt (pureOp P o ev')) TV.raw := by
 unfold indexT
 split
 ·rename_i l n hx hn hu
  have hi : ∃ k, ev i = some (.g (.b (.int k n))) := by
   unfold intT? at hn
   split at hn
   ·rename_i k m hi; cases hn; exact ⟨k, hi⟩
   ·cases hn
  obtain ⟨k, hi⟩ := hi
  refine Sim.guard fun hd => Sim.sub fun c hc => ?_
  have hd := of_decide_eq_true hd
  obtain ⟨c1, s1, _⟩ := concOf_raw hev hx (y := .string ⟨l.toArray⟩) rfl
  obtain ⟨c2, s2, _⟩ := concOf_raw hev hi (y := .int k n) rfl
  refine sim_one (y := .int .u8 c.toNat) (fun z hz => ?_) (fun cs b h => by rw [ho] at h; cases h) ?_ rfl (fun cs h => by cases h)
  ·rw [ho] at hz; simp [Op.operands] at hz
   rcases hz with rfl | rfl
   ·exact s1
   ·exact s2
  ·rw [execOp_mk _ o _ ho]
   have hget : (⟨l.toArray⟩ : ByteArray)[n.toNat]? = some c := by
    have hlt := (List.getElem?_eq_some_iff.1 hc).1
    have h1 : n.toNat < (⟨l.toArray⟩ : ByteArray).size := hlt
    rw [getElem?_pos (⟨l.toArray⟩ : ByteArray) n.toNat h1]
    have := (List.getElem?_eq_some_iff.1 hc).2
    show some (l.toArray[n.toNat]'(by simpa using hlt)) = some c
    rw [← this]; simp
   have hidx : runPure P (Instr.index t (.string ⟨l.toArray⟩) (.int k n)) = some (.int .u8 c.toNat) := by
    simp only [Instr.index, asIntOf, runPure_bind, runPure_pure, Option.bind_some, runPure_underlying hu, if_pos hd.1, hget]
   simp only [execOp, c1, c2, runPure_bind, hidx, Option.bind_some, runPure_pure]
 ·exact Sim.fail
theorem sim_boundT {β : Type} {f : TV → β} (hev : EvR ev ev') {d : Nat} {x : Option Operand} {k : Nat → TP TV} {q : Pr β} (h : ∀ n, boundOf ev' d x = some n → ((x = none ∧ n = d) ∨ ∃ y kd, x = some y ∧ ev y = some (.g (.b (.int kd n)))) → Sim (k n) q f) : Sim (boundT ev d k x) q f := by
 cases x with
 | none => exact h d rfl (.inl ⟨rfl, rfl⟩)
 | some y =>
  simp only [boundT]
  cases hn : intT? (ev y) with
  | none => exact Sim.fail
  | some n =>
   refine Sim.guard fun hd => ?_
   have hd := of_decide_eq_true hd
   have e : boundOf ev' d (some y) = some n.toNat := by
    simp only [boundOf, intT_raw (hev y) hn]
    rw [if_pos hd]
   refine h n.toNat e (.inr ⟨y, ?_⟩)
   unfold intT? at hn
   split at hn
   ·rename_i kd m hy
    cases hn
    exact ⟨kd, rfl, by rw [hy, Int.toNat_of_nonneg hd]⟩
   ·cases hn
theorem runPure_bound {k : IntKind} {n m : Nat} {code : BoundsCode} (h : n ≤ m) : runPure P (Instr.sliceBound (.int k n) m code) = some n := by
 simp only [Instr.sliceBound, asIntOf, runPure_bind, runPure_pure, Option.bind_some]
 rw [if_pos ⟨by omega, by omega⟩]
 simp
theorem sim_sliceT {o : Oper} {t : TypeId} {x : Operand} {lo hi mx : Option Operand} (hev : EvR ev ev') (ho : o.op = .slice t x lo hi mx) : Sim (sliceT P ev t x lo hi mx) (actSlice P o ev' t x lo hi mx) TV.raw := by
 unfold sliceT actSlice
 cases het : elemOfSlice P t with
 | none =>
  simp only []
  split
  ·rename_i l hx hu
   refine sim_boundT hev fun a ha ha' => sim_boundT hev fun b hb hb' => Sim.guard fun hd => ?_
   have hd := of_decide_eq_true hd
   obtain ⟨c1, s1, _⟩ := concOf_raw hev hx (y := .string ⟨l.toArray⟩) rfl
   have bnd : ∀ {n d : Nat} {z : Option Operand}, ((z = none ∧ n = d) ∨ ∃ y kd, z = some y ∧ ev y = some (.g (.b (.int kd n)))) → (z = none ∧ n = d) ∨ ∃ y kd, z = some y ∧ concOf ev' y = .int kd n ∧ ((ev' y).bind V.conc).isSome = true := by
    rintro n d z (h | ⟨y, kd, rfl, hy⟩)
    ·exact .inl h
    ·obtain ⟨c, s, _⟩ := concOf_raw hev hy (y := .int kd n) rfl
     exact .inr ⟨y, kd, rfl, c, s⟩
   have ha2 := bnd ha'
   have hb2 := bnd hb'
   refine sim_one (y := .string ⟨(win l a (b - a)).toArray⟩) (fun z hz => ?_) (fun cs b h => by rw [ho] at h; cases h) ?_ rfl (fun cs h => by cases h)
   ·have ko : ∀ {n d : Nat} {w z : Option Operand}, (w = none ∧ n = d ∨ ∃ y kd, w = some y ∧ concOf ev' y = .int kd n ∧ ((ev' y).bind V.conc).isSome = true) → ∀ z, w = some z → ((ev' z).bind V.conc).isSome = true := by
     rintro n d w _ h z hz
     rcases h with ⟨h0, _⟩ | ⟨y, kd, h0, _, s⟩
     ·rw [h0] at hz; cases hz
     ·rw [h0] at hz; cases hz; exact s
    rw [ho] at hz
    simp only [Op.operands] at hz
    have hz' : z = x ∨ lo = some z ∨ hi = some z := by
     cases lo <;> cases hi <;> simp at hz ⊢ <;> rcases hz with hz | hz <;> simp_all <;> (rcases hz with hz | hz <;> simp_all)
    rcases hz' with rfl | hz' | hz'
    ·exact s1
    ·exact ko (z := none) ha2 z hz'
    ·exact ko (z := none) hb2 z hz'
   ·rw [execOp_mk _ o _ ho]
    have hext : (⟨l.toArray⟩ : ByteArray).extract a b = ⟨(win l a (b - a)).toArray⟩ := by
     apply ByteArray.ext
     simp [win]
    have hbs : runPure P (Instr.sliceBounds false (⟨l.toArray⟩ : ByteArray).size (⟨l.toArray⟩ : ByteArray).size (lo.map (concOf ev')) (hi.map (concOf ev')) none) = some (a, b, l.length) := by
     have e0 : (⟨l.toArray⟩ : ByteArray).size = l.length := rfl
     rw [e0]
     unfold Instr.sliceBounds
     rcases ha2 with ⟨rfl, rfl⟩ | ⟨y, kd, rfl, e1, _⟩ <;> rcases hb2 with ⟨rfl, rfl⟩ | ⟨y', kd', rfl, e2, _⟩ <;>
      simp only [Option.map_none, Option.map_some, runPure_bind, runPure_pure, Option.bind_some, *, Option.isSome_none, Bool.false_eq_true, if_false, runPure_bound hd.1, runPure_bound hd.2]
    have hnot : ∀ n e, P.underlying t ≠ some (.array n e) := by rw [hu]; intro n e h; cases h
    have hsl : runPure P (Instr.sliceAt t (.string ⟨l.toArray⟩) (lo.map (concOf ev')) (hi.map (concOf ev')) none) = some (.string ⟨(win l a (b - a)).toArray⟩) := by
     simp only [Instr.sliceAt, Instr.slice, runPure_bind, runPure_underlying hu, Option.bind_some, Option.isSome_none, Bool.false_eq_true, if_false, hbs, runPure_pure, hext]
    simp only [execOp, c1, runPure_bind, Option.map_none, hsl, Option.bind_some, runPure_pure]
  ·exact Sim.fail
 | some et =>
  simp only []
  split
  ·rename_i r g off len hx
   have e1 := hev x _ hx
   simp only [TV.raw, TG.raw, TB.raw] at e1
   rw [e1]
   cases mx with
   | some m => exact Sim.fail
   | none =>
    simp only []
    refine sim_boundT hev fun a ha _ => sim_boundT hev fun b hb _ => ?_
    rw [ha, hb]
    refine Sim.get fun rt => ?_
    cases rt with
    | rcd g' cs => exact Sim.fail
    | row g' e xs =>
     refine Sim.iteF fun ⟨c1, c2⟩ => Sim.guard fun hd => ?_
     have hd := of_decide_eq_true hd
     exact Sim.pos ⟨c1, c2, hd.1, hd.2⟩ (Sim.ret rfl)
  ·rename_i e xs ex lk hx
   have e1 := hev x _ hx
   simp only [TV.raw, TG.raw, TB.raw] at e1
   rw [e1]
   simp only []
   refine Sim.iteF fun ⟨c1, c2⟩ => ?_
   cases mx with
   | none =>
    simp only []
    refine sim_boundT hev fun a ha _ => sim_boundT hev fun b hb _ => Sim.guard fun hd => ?_
    have hd := of_decide_eq_true hd
    rw [ha, hb]
    refine Sim.pos ⟨c2, hd.1, hd.2⟩ (Sim.ret ?_)
    simp only [TV.raw, TG.raw, TB.raw]
    rw [win_length (by omega), ← c1, flat_win (encC_length e)]
   | some m =>
    simp only []
    refine Sim.iteF fun hh => ?_
    refine sim_boundT hev fun a ha _ => sim_boundT hev fun b hb _ => sim_boundT hev fun c hc _ => Sim.guard fun hd => ?_
    have hd := of_decide_eq_true hd
    rw [ha, hb, hc]
    refine Sim.pos ⟨c2, hd.1, hd.2.1, hd.2.2, hh⟩ (Sim.ret ?_)
    simp only [TV.raw, TG.raw, TB.raw]
    rw [win_length (by omega), ← c1, flat_win (encC_length e)]
  ·exact Sim.fail
theorem ety_sz {t : TypeId} {e : ETy} (h : ety P t = some e) : sz e = P.cellsOf t ∧ e.ok = true := by
 unfold ety at h
 obtain ⟨e', _, h⟩ := Option.bind_eq_some_iff.1 h
 split at h
 ·rename_i hc; cases h; exact hc
 ·cases h
theorem sim_moveT {t : TypeId} {x : Operand} {y : Option TV} {y' : Option V} {base : Nat} (h : RelO y y') : Sim (moveT P t x y base) (actMove P t x y' base) TV.raw := by
 unfold moveT actMove
 split
 ·cases het : elemOfSlice P t with
  | none => exact Sim.ofOpt h
  | some et =>
   simp only []
   cases he : ety P et with
   | none => exact Sim.fail
   | some e =>
    simp only []
    refine Sim.iteF fun hp => Sim.pos hp (Sim.mk ?_ (Sim.ret rfl))
    simp only [TRoot.raw, (ety_sz he).1, List.flatMap_nil]
 ·rename_i hn
  split
  ·exact absurd rfl hn
  ·exact Sim.ofOpt h
theorem zeroOK_raw : ∀ {e : ETy} {l r : List Value}, zeroOK e l = some r → l.map zsh = encB e (zeroE e) ++ r.map zsh
 | .int k, l, r, h => by
  cases l with
  | nil => simp [zeroOK] at h
  | cons y l =>
   cases y <;> try (simp [zeroOK] at h; done)
   simp only [zeroOK] at h
   split at h
   ·rename_i hc; cases h; obtain ⟨rfl, rfl⟩ := hc; rfl
   ·cases h
 | .bool, l, r, h => by
  cases l with
  | nil => simp [zeroOK] at h
  | cons y l =>
   cases y <;> try (simp [zeroOK] at h; done)
   rename_i b
   cases b <;> simp [zeroOK] at h
   subst h; rfl
 | .str, l, r, h => by
  cases l with
  | nil => simp [zeroOK] at h
  | cons y l =>
   cases y <;> try (simp [zeroOK] at h; done)
   rename_i s
   simp only [zeroOK] at h
   split at h
   ·rename_i hc
    cases h
    have : s = ⟨#[]⟩ := by
     apply ByteArray.ext
     exact Array.eq_empty_of_size_eq_zero hc
    subst this; rfl
   ·cases h
 | .pair a b, l, r, h => by
  simp only [zeroOK] at h
  obtain ⟨r1, h1, h2⟩ := Option.bind_eq_some_iff.1 h
  rw [zeroOK_raw h1, zeroOK_raw h2]
  simp [encB, zeroE]
 | .list false e, l, r, h => by
  unfold zeroOK at h
  cases h
 | .list true e, l, r, h => by
  unfold zeroOK at h
  split at h <;> first
   | (cases h; rfl)
   | simp_all
theorem zeroElem_raw {t : TypeId} {e : ETy} {z : den e} (h : zeroElem P t = some ⟨e, z⟩) : ety P t = some e ∧ zeroRow P t = some (encB e z) := by
 unfold zeroElem at h
 split at h
 ·rename_i e' zv he hz
  split at h
  ·rename_i hok
   cases h
   refine ⟨he, ?_⟩
   unfold zeroRow
   rw [hz]
   simp [zeroOK_raw hok]
  ·cases h
 ·cases h
theorem sim_makeSliceT {t : TypeId} {len cap : Option TV} {len' cap' : Option V} {base : Nat} (hl : RelO len len') (hc : RelO cap cap') : Sim (makeSliceT P t len cap base) (actMakeSlice P t len' cap' base) TV.raw := by
 unfold makeSliceT
 split
 ·rename_i et l c het hln hcn
  unfold actMakeSlice
  rw [het, intT_raw hl hln, intT_raw hc hcn]
  simp only []
  split
  ·rename_i e z hz
   obtain ⟨he, hzr⟩ := zeroElem_raw hz
   rw [hzr]
   simp only []
   refine Sim.iteF fun ⟨c1, c2⟩ => Sim.guard fun hd => ?_
   have hd := of_decide_eq_true hd
   refine Sim.pos ⟨by rw [encB_length, c1], c2, hd.1, hd.2.1, hd.2.2⟩ (Sim.mk ?_ (Sim.ret rfl))
   simp only [TRoot.raw, c1]
   congr 1
   simp [List.flatMap]
  ·exact Sim.fail
 ·exact Sim.fail
theorem partsOfT_raw (hev : EvR ev ev') : ∀ {l : List (Nat × Operand)} {ps : List (Nat × List TB)}, partsOfT ev l = some ps → partsOf ev' l = some (ps.map fun p => (p.1, p.2.map TB.raw))
 | [], ps, h => by simp only [partsOfT, Option.some.injEq] at h; subst h; rfl
 | (i, x) :: l, ps, h => by
  simp only [partsOfT] at h
  split at h
  ·rename_i p ps' h1 h2
   cases h
   simp only [partsOf, cells_raw (hev x) h1, partsOfT_raw hev h2, List.map_cons]
  ·cases h
theorem fillT_raw {place : Nat → Option (Nat × Nat)} : ∀ {ps : List (Nat × List TB)} {cells cs : List TB}, fillT place cells ps = some cs → fillB place (cells.map TB.raw) (ps.map fun p => (p.1, p.2.map TB.raw)) = some (cs.map TB.raw)
 | [], cells, cs, h => by simp only [fillT, Option.some.injEq] at h; subst h; rfl
 | (i, p) :: ps, cells, cs, h => by
  simp only [fillT] at h
  split at h
  ·rename_i off size hp
   split at h
   ·rename_i hc
    simp only [List.map_cons, fillB, hp]
    rw [if_pos (by simpa using hc)]
    have := fillT_raw h
    simpa using this
   ·cases h
  ·cases h
theorem sim_closePartsT : ∀ (l : List (Nat × List TB)), Sim (closePartsT l) (closeParts (l.map fun p => (p.1, p.2.map TB.raw))) (List.map fun p => (p.1, p.2.map TB.raw))
 | [] => Sim.ret rfl
 | (i, p) :: rest => Sim.bind (sim_closeTs p) fun q => Sim.bind (sim_closePartsT rest) fun qs => Sim.ret rfl
theorem fillE_raw {e : ETy} {n : Nat} (hn : sz e = n) : ∀ {ps : List (Nat × List TB)} {xs ys : List (den e)}, fillE e xs ps = some ys → ys.length = xs.length ∧ fillB (fun i => some (i * n, n)) (xs.flatMap (encB e)) (ps.map fun p => (p.1, p.2.map TB.raw)) = some (ys.flatMap (encB e))
 | [], xs, ys, h => by simp only [fillE, Option.some.injEq] at h; subst h; exact ⟨rfl, rfl⟩
 | (i, p) :: ps, xs, ys, h => by
  simp only [fillE] at h
  split at h
  ·rename_i x hx
   split at h
   ·rename_i hlt
    obtain ⟨h1, h2⟩ := fillE_raw hn h
    rw [List.length_set] at h1
    refine ⟨h1, ?_⟩
    have hpl : (p.map TB.raw).length = n := by rw [elemOf_raw hx, encB_length, hn]
    have hmul : (i + 1) * n ≤ xs.length * n := Nat.mul_le_mul_right _ hlt
    rw [Nat.add_mul, Nat.one_mul] at hmul
    have hlen : (xs.flatMap (encB e)).length = xs.length * n := by rw [flat_length (encB_length e), hn]
    simp only [List.map_cons, fillB]
    rw [if_pos ⟨hpl, by rw [hlen]; exact hmul⟩]
    have hset := flat_set (encB_length e) (List.getElem?_eq_getElem hlt) (y := x) (fo := 0) (cs := p.map TB.raw) (by rw [hpl, hn]; omega) (by
     rw [elemOf_raw hx]
     simp [List.drop_of_length_le, encB_length])
    rw [hn, hpl, Nat.add_zero] at hset
    rw [hset]
    exact h2
   ·cases h
  ·cases h
theorem sim_buildT {o : Oper} {t : TypeId} {parts : Array (Nat × Operand)} {base : Nat} (hev : EvR ev ev') (ho : o.op = .build t parts) : Sim (buildT P ev t parts.toList) (act P o ev' base) TV.raw := by
 unfold buildT
 split
 ·rename_i fields z ps hu hz hps
  obtain ⟨dst, op, type, pos, after, guard⟩ := o
  simp only at ho
  subst ho
  simp only [act]
  have hz' : zeroCells P t = some (z.map TB.raw) := by
   unfold zeroCellsT at hz
   unfold zeroCells
   obtain ⟨zv, h1, h2⟩ := Option.bind_eq_some_iff.1 hz
   rw [h1, Option.map_some, ofVals_raw h2]
  rw [hu, hz', partsOfT_raw hev hps]
  simp only []
  refine Sim.iteF fun hc => Sim.pos hc ?_
  cases hf : fillT (fun i => (fields[i]?).map fun (f : Field) => (f.offset, P.cellsOf f.type)) z ps with
  | none => exact Sim.fail
  | some cs =>
   rw [fillT_raw hf]
   exact Sim.ret rfl
 ·exact Sim.fail
theorem seqE_raw {e : ETy} {n : Nat} (hn : sz e = n) : ∀ {ps : List (Nat × List TB)} {k : Nat} {cells : List B} {xs : List (den e)}, seqE e k ps = some xs → cells.length = (k + xs.length) * n →
  fillB (fun i => some (i * n, n)) cells (ps.map fun p => (p.1, p.2.map TB.raw)) = some (cells.take (k * n) ++ xs.flatMap (encB e))
 | [], k, cells, xs, h, hl => by
  simp only [seqE, Option.some.injEq] at h
  subst h
  simp only [List.length_nil, Nat.add_zero] at hl
  simp [fillB, ← hl]
 | (i, p) :: rest, k, cells, xs, h, hl => by
  simp only [seqE] at h
  split at h
  ·rename_i hik
   subst hik
   split at h
   ·rename_i x ys hx hys
    cases h
    have hp := elemOf_raw hx
    have hpl : (p.map TB.raw).length = n := by rw [hp, encB_length, hn]
    have hsz : (i + 1 + ys.length) * n = i * n + n + ys.length * n := by rw [Nat.add_mul, Nat.add_mul, Nat.one_mul]
    have hl' : cells.length = i * n + n + ys.length * n := by rw [hl, List.length_cons, ← hsz]; congr 1; omega
    simp only [List.map_cons, fillB]
    rw [if_pos ⟨hpl, by omega⟩]
    have ht : (cells.take (i * n)).length = i * n := by rw [List.length_take]; omega
    have hc' : (cells.take (i * n) ++ (p.map TB.raw ++ cells.drop (i * n + n))).length = (i + 1 + ys.length) * n := by
     rw [List.length_append, List.length_append, ht, hpl, List.length_drop, hsz]; omega
    rw [seqE_raw hn hys hc']
    have : (cells.take (i * n) ++ (p.map TB.raw ++ cells.drop (i * n + n))).take ((i + 1) * n) = cells.take (i * n) ++ p.map TB.raw := by
     rw [← List.append_assoc, List.take_left' (by rw [List.length_append, ht, hpl, Nat.add_mul, Nat.one_mul])]
    rw [this, hp, List.flatMap_cons, List.append_assoc]
   ·cases h
  ·cases h
theorem sim_buildSliceT {o : Oper} {t : TypeId} {n : Nat} {parts : Array (Nat × Operand)} {base : Nat} (hev : EvR ev ev') (ho : o.op = .buildSlice t n parts) : Sim (buildSliceT P ev t n parts.toList base) (act P o ev' base) TV.raw := by
 unfold buildSliceT
 split
 ·rename_i et ps het hps
  obtain ⟨dst, op, type, pos, after, guard⟩ := o
  simp only at ho
  subst ho
  simp only [act]
  rw [het, partsOfT_raw hev hps]
  simp only []
  split
  ·rename_i e z hz
   obtain ⟨he, hzr⟩ := zeroElem_raw hz
   rw [hzr]
   simp only []
   refine Sim.iteF fun ⟨c1, c2, c3⟩ => Sim.pos ⟨by rw [encB_length, c1], c2, c3⟩ ?_
   refine Sim.bind (sim_closePartsT ps) fun qs => ?_
   cases hf : fillE e (List.replicate n z) qs with
   | none =>
    simp only []
    split
    ·rename_i e0 z _
     cases hs : seqE (.list false e0) 0 qs with
     | none => exact Sim.fail
     | some xs =>
      refine Sim.iteF fun hxl => ?_
      have c1' : P.cellsOf et = 1 := c1.symm
      have h2 := seqE_raw (e := .list false e0) (n := P.cellsOf et) c1 hs (cells := (List.replicate n (encB (.list true e0) z)).flatten) (by
       have hz1 : ∀ (z : den (.list true e0)), (encB (.list true e0) z).length = 1 := fun _ => rfl
       rw [hxl, c1', Nat.mul_one, Nat.zero_add, List.length_flatten, List.map_replicate, hz1]
       simp)
      rw [Nat.zero_mul, List.take_zero, List.nil_append] at h2
      rw [h2]
      exact Sim.mk (by simp only [TRoot.raw, c1']; rfl) (Sim.ret rfl)
    ·exact Sim.fail
   | some xs =>
    obtain ⟨h1, h2⟩ := fillE_raw c1 hf
    have e1 : (List.replicate n z).flatMap (encB e) = (List.replicate n (encB e z)).flatten := by simp [List.flatMap]
    rw [e1] at h2
    rw [h2]
    exact Sim.mk (by simp only [TRoot.raw, c1]) (Sim.ret rfl)
  ·exact Sim.fail
 ·exact Sim.fail
end
end Go.Gm
