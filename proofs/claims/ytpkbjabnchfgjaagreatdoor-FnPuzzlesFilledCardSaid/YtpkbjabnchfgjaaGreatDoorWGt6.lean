import Derived.Test.YtpkbjabnchfgjaaGreatDoorWGt5
namespace Go.Gm
set_option linter.unusedSimpArgs false
set_option linter.unusedVariables false
section
variable {P : Program} {ev : Operand → Option TV} {ev' : Operand → Option V}
theorem zbeq {o : Oper} {op : UnOp} {m : TypeId} {x : Operand} (hev : EvR ev ev') (ho : o.op = .unOp op m x) : Sim (unT P o ev op x) (Pr.ofOpt (zc6 P o ev')) TV.raw := by
 unfold unT
 split
 ·rename_i t hx
  obtain ⟨c1, s1, _⟩ := zch hev hx (y := .bool t) rfl
  refine zuj (y := .bool (!t)) (fun z hz => ?_) (fun cs b h => by rw [ho] at h; cases h) ?_ rfl (fun cs h => by cases h)
  ·rw [ho] at hz; simp [Op.operands] at hz; subst hz; exact s1
  ·rw [zax _ o _ ho]
   simp only [execOp, c1, za6]
   rfl
 ·exact zft hev
theorem zafd {o : Oper} {t : TypeId} {x i : Operand} (hev : EvR ev ev') (ho : o.op = .index t x i) : Sim (zasc P ev t x i) (Pr.ofOpt (zc6 P o ev')) TV.raw := by
 unfold zasc
 split
 ·rename_i l n hx hn hu
  have hi : ∃ k, ev i = some (.g (.b (.int k n))) := by
   unfold zu5 at hn
   split at hn
   ·rename_i k m hi; cases hn; exact ⟨k, hi⟩
   ·cases hn
  obtain ⟨k, hi⟩ := hi
  refine Sim.guard fun hd => Sim.sub fun c hc => ?_
  have hd := ku hd
  obtain ⟨c1, s1, _⟩ := zch hev hx (y := .string ⟨l.toArray⟩) rfl
  obtain ⟨c2, s2, _⟩ := zch hev hi (y := .int k n) rfl
  refine zuj (y := .int .u8 c.toNat) (fun z hz => ?_) (fun cs b h => by rw [ho] at h; cases h) ?_ rfl (fun cs h => by cases h)
  ·rw [ho] at hz; simp [Op.operands] at hz
   rcases hz with rfl | rfl
   ·exact s1
   ·exact s2
  ·rw [zax _ o _ ho]
   have hget : (⟨l.toArray⟩ : ByteArray)[n.toNat]? = some c := by
    have hlt := (qh.1 hc).1
    have h1 : n.toNat < (⟨l.toArray⟩ : ByteArray).size := hlt
    rw [getElem?_pos (⟨l.toArray⟩ : ByteArray) n.toNat h1]
    have := (qh.1 hc).2
    show some (l.toArray[n.toNat]'(by simpa using hlt)) = some c
    rw [← this]; simp
   have hidx : zbb P (Instr.index t (.string ⟨l.toArray⟩) (.int k n)) = some (.int .u8 c.toNat) := by
    simp only [Instr.index, asIntOf, za6, zc7, qa, zeq hu, if_pos hd.1, hget]
   simp only [execOp, c1, c2, za6, hidx, qa, zc7]
 ·exact Sim.fail
theorem zdc {β : Type} {f : TV → β} (hev : EvR ev ev') {d : Nat} {x : Option Operand} {k : Nat → TP TV} {q : Pr β} (h : ∀ n, zbx ev' d x = some n → ((x = none ∧ n = d) ∨ ∃ y kd, x = some y ∧ ev y = some (.g (.b (.int kd n)))) → Sim (k n) q f) : Sim (zik ev d k x) q f := by
 cases x with
 | none => exact h d rfl (.inl ⟨rfl, rfl⟩)
 | some y =>
  simp only [zik]
  cases hn : zu5 (ev y) with
  | none => exact Sim.fail
  | some n =>
   refine Sim.guard fun hd => ?_
   have hd := ku hd
   have e : zbx ev' d (some y) = some n.toNat := by
    simp only [zbx, zp8 (hev y) hn]
    rw [if_pos hd]
   refine h n.toNat e (.inr ⟨y, ?_⟩)
   unfold zu5 at hn
   split at hn
   ·rename_i kd m hy
    cases hn
    exact ⟨kd, rfl, by rw [hy, Int.toNat_of_nonneg hd]⟩
   ·cases hn
theorem zmc {k : IntKind} {n m : Nat} {code : BoundsCode} (h : n ≤ m) : zbb P (Instr.sliceBound (.int k n) m code) = some n := by
 simp only [Instr.sliceBound, asIntOf, za6, zc7, qa]
 rw [if_pos ⟨by omega, by omega⟩]
 simp
theorem zafi {o : Oper} {t : TypeId} {x : Operand} {lo hi mx : Option Operand} (hev : EvR ev ev') (ho : o.op = .slice t x lo hi mx) : Sim (zauk P ev t x lo hi mx) (zje P o ev' t x lo hi mx) TV.raw := by
 unfold zauk zje
 cases het : zar P t with
 | none =>
  simp only []
  split
  ·rename_i l hx hu
   refine zdc hev fun a ha ha' => zdc hev fun b hb hb' => Sim.guard fun hd => ?_
   have hd := ku hd
   obtain ⟨c1, s1, _⟩ := zch hev hx (y := .string ⟨l.toArray⟩) rfl
   have bnd : ∀ {n d : Nat} {z : Option Operand}, ((z = none ∧ n = d) ∨ ∃ y kd, z = some y ∧ ev y = some (.g (.b (.int kd n)))) → (z = none ∧ n = d) ∨ ∃ y kd, z = some y ∧ zde ev' y = .int kd n ∧ ((ev' y).bind V.conc).isSome = true := by
    rintro n d z (h | ⟨y, kd, rfl, hy⟩)
    ·exact .inl h
    ·obtain ⟨c, s, _⟩ := zch hev hy (y := .int kd n) rfl
     exact .inr ⟨y, kd, rfl, c, s⟩
   have ha2 := bnd ha'
   have hb2 := bnd hb'
   refine zuj (y := .string ⟨(win l a (b - a)).toArray⟩) (fun z hz => ?_) (fun cs b h => by rw [ho] at h; cases h) ?_ rfl (fun cs h => by cases h)
   ·have ko : ∀ {n d : Nat} {w z : Option Operand}, (w = none ∧ n = d ∨ ∃ y kd, w = some y ∧ zde ev' y = .int kd n ∧ ((ev' y).bind V.conc).isSome = true) → ∀ z, w = some z → ((ev' z).bind V.conc).isSome = true := by
     rintro n d w _ h z hz
     rcases h with ⟨h0, _⟩ | ⟨y, kd, h0, _, s⟩
     ·rw [h0] at hz; cases hz
     ·rw [h0] at hz; cases hz; exact s
    rw [ho] at hz
    simp only [Op.operands] at hz
    have hz' : z = x ∨ lo = some z ∨ hi = some z := by
     cases lo <;> cases hi <;> simp at hz ⊢ <;> rcases hz with hz | hz <;> simp_all <;> (rcases hz with hz | hz <;> simp_all)
    rcases hz' with rfl | hz' | hz'
    ·exact s1
    ·exact ko (z := none) ha2 z hz'
    ·exact ko (z := none) hb2 z hz'
   ·rw [zax _ o _ ho]
    have hext : (⟨l.toArray⟩ : ByteArray).extract a b = ⟨(win l a (b - a)).toArray⟩ := by
     apply ByteArray.ext
     simp [win]
    have hbs : zbb P (Instr.sliceBounds false (⟨l.toArray⟩ : ByteArray).size (⟨l.toArray⟩ : ByteArray).size (lo.map (zde ev')) (hi.map (zde ev')) none) = some (a, b, l.length) := by
     have e0 : (⟨l.toArray⟩ : ByteArray).size = l.length := rfl
     rw [e0]
     unfold Instr.sliceBounds
     rcases ha2 with ⟨rfl, rfl⟩ | ⟨y, kd, rfl, e1, _⟩ <;> rcases hb2 with ⟨rfl, rfl⟩ | ⟨y', kd', rfl, e2, _⟩ <;>
      simp only [Option.map_none, Option.map_some, za6, zc7, qa, *, Option.isSome_none, qj, if_false, zmc hd.1, zmc hd.2]
    have hnot : ∀ n e, P.underlying t ≠ some (.array n e) := by rw [hu]; intro n e h; cases h
    have hsl : zbb P (Instr.sliceAt t (.string ⟨l.toArray⟩) (lo.map (zde ev')) (hi.map (zde ev')) none) = some (.string ⟨(win l a (b - a)).toArray⟩) := by
     simp only [Instr.sliceAt, Instr.slice, za6, zeq hu, qa, Option.isSome_none, qj, if_false, hbs, zc7, hext]
    simp only [execOp, c1, za6, Option.map_none, hsl, qa, zc7]
  ·exact Sim.fail
 | some et =>
  simp only []
  split
  ·rename_i r g off len hx
   have e1 := hev x _ hx
   simp only [TV.raw, TG.raw, TB.raw] at e1
   rw [e1]
   cases mx with
   | some m => exact Sim.fail
   | none =>
    simp only []
    refine zdc hev fun a ha _ => zdc hev fun b hb _ => ?_
    rw [ha, hb]
    refine Sim.get fun rt => ?_
    cases rt with
    | rcd g' cs => exact Sim.fail
    | row g' e xs =>
     refine Sim.iteF fun ⟨c1, c2⟩ => Sim.guard fun hd => ?_
     have hd := ku hd
     exact Sim.pos ⟨c1, c2, hd.1, hd.2⟩ (Sim.ret rfl)
  ·rename_i e xs ex lk hx
   have e1 := hev x _ hx
   simp only [TV.raw, TG.raw, TB.raw] at e1
   rw [e1]
   simp only []
   refine Sim.iteF fun ⟨c1, c2⟩ => ?_
   cases mx with
   | none =>
    simp only []
    refine zdc hev fun a ha _ => zdc hev fun b hb _ => Sim.guard fun hd => ?_
    have hd := ku hd
    rw [ha, hb]
    refine Sim.pos ⟨c2, hd.1, hd.2⟩ (Sim.ret ?_)
    simp only [TV.raw, TG.raw, TB.raw]
    rw [zfj (by omega), ← c1, zlw (zby e)]
   | some m =>
    simp only []
    refine Sim.iteF fun hh => ?_
    refine zdc hev fun a ha _ => zdc hev fun b hb _ => zdc hev fun c hc _ => Sim.guard fun hd => ?_
    have hd := ku hd
    rw [ha, hb, hc]
    refine Sim.pos ⟨c2, hd.1, hd.2.1, hd.2.2, hh⟩ (Sim.ret ?_)
    simp only [TV.raw, TG.raw, TB.raw]
    rw [zfj (by omega), ← c1, zlw (zby e)]
  ·exact Sim.fail
theorem za4u {t : TypeId} {e : ETy} (h : ety P t = some e) : sz e = P.cellsOf t ∧ e.ok = true := by
 unfold ety at h
 obtain ⟨e', _, h⟩ := qx.1 h
 split at h
 ·rename_i hc; cases h; exact hc
 ·cases h
theorem z4k {t : TypeId} {x : Operand} {y : Option TV} {y' : Option V} {base : Nat} (h : RelO y y') : Sim (zbc9 P t x y base) (zsg P t x y' base) TV.raw := by
 unfold zbc9 zsg
 split
 ·cases het : zar P t with
  | none => exact Sim.ofOpt h
  | some et =>
   simp only []
   cases he : ety P et with
   | none => exact Sim.fail
   | some e =>
    simp only []
    refine Sim.iteF fun hp => Sim.pos hp (Sim.mk ?_ (Sim.ret rfl))
    simp only [TRoot.raw, (za4u he).1, List.flatMap_nil]
 ·rename_i hn
  split
  ·exact absurd rfl hn
  ·exact Sim.ofOpt h
theorem zos : ∀ {e : ETy} {l r : List Value}, zf6 e l = some r → l.map zsh = encB e (zau2 e) ++ r.map zsh
 | .int k, l, r, h => by
  cases l with
  | nil => simp [zf6] at h
  | cons y l =>
   cases y <;> try (simp [zf6] at h; done)
   simp only [zf6] at h
   split at h
   ·rename_i hc; cases h; obtain ⟨rfl, rfl⟩ := hc; rfl
   ·cases h
 | .bool, l, r, h => by
  cases l with
  | nil => simp [zf6] at h
  | cons y l =>
   cases y <;> try (simp [zf6] at h; done)
   rename_i b
   cases b <;> simp [zf6] at h
   subst h; rfl
 | .str, l, r, h => by
  cases l with
  | nil => simp [zf6] at h
  | cons y l =>
   cases y <;> try (simp [zf6] at h; done)
   rename_i s
   simp only [zf6] at h
   split at h
   ·rename_i hc
    cases h
    have : s = ⟨#[]⟩ := by
     apply ByteArray.ext
     exact kv hc
    subst this; rfl
   ·cases h
 | .pair a b, l, r, h => by
  simp only [zf6] at h
  obtain ⟨r1, h1, h2⟩ := qx.1 h
  rw [zos h1, zos h2]
  simp [encB, zau2]
 | .list false e, l, r, h => by
  unfold zf6 at h
  cases h
 | .list true e, l, r, h => by
  unfold zf6 at h
  split at h <;> first
   | (cases h; rfl)
   | simp_all
theorem zjb {t : TypeId} {e : ETy} {z : den e} (h : zmp P t = some ⟨e, z⟩) : ety P t = some e ∧ zjc P t = some (encB e z) := by
 unfold zmp at h
 split at h
 ·rename_i e' zv he hz
  split at h
  ·rename_i hok
   cases h
   refine ⟨he, ?_⟩
   unfold zjc
   rw [hz]
   simp [zos hok]
  ·cases h
 ·cases h
theorem zvc {t : TypeId} {len cap : Option TV} {len' cap' : Option V} {base : Nat} (hl : RelO len len') (hc : RelO cap cap') : Sim (zn6 P t len cap base) (zfp P t len' cap' base) TV.raw := by
 unfold zn6
 split
 ·rename_i et l c het hln hcn
  unfold zfp
  rw [het, zp8 hl hln, zp8 hc hcn]
  simp only []
  split
  ·rename_i e z hz
   obtain ⟨he, hzr⟩ := zjb hz
   rw [hzr]
   simp only []
   refine Sim.iteF fun ⟨c1, c2⟩ => Sim.guard fun hd => ?_
   have hd := ku hd
   refine Sim.pos ⟨by rw [zam, c1], c2, hd.1, hd.2.1, hd.2.2⟩ (Sim.mk ?_ (Sim.ret rfl))
   simp only [TRoot.raw, c1]
   congr 1
   simp [List.flatMap]
  ·exact Sim.fail
 ·exact Sim.fail
theorem zi2 (hev : EvR ev ev') : ∀ {l : List (Nat × Operand)} {ps : List (Nat × List TB)}, zjr ev l = some ps → zfd ev' l = some (ps.map fun p => (p.1, p.2.map TB.raw))
 | [], ps, h => by simp only [zjr, qc] at h; subst h; rfl
 | (i, x) :: l, ps, h => by
  simp only [zjr] at h
  split at h
  ·rename_i p ps' h1 h2
   cases h
   simp only [zfd, zlo (hev x) h1, zi2 hev h2, qu]
  ·cases h
theorem z2m {zb2 : Nat → Option (Nat × Nat)} : ∀ {ps : List (Nat × List TB)} {cells cs : List TB}, zaeo zb2 cells ps = some cs → zgv zb2 (cells.map TB.raw) (ps.map fun p => (p.1, p.2.map TB.raw)) = some (cs.map TB.raw)
 | [], cells, cs, h => by simp only [zaeo, qc] at h; subst h; rfl
 | (i, p) :: ps, cells, cs, h => by
  simp only [zaeo] at h
  split at h
  ·rename_i off size hp
   split at h
   ·rename_i hc
    simp only [qu, zgv, hp]
    rw [if_pos (by simpa using hc)]
    have := z2m h
    simpa using this
   ·cases h
  ·cases h
theorem zi8 : ∀ (l : List (Nat × List TB)), Sim (zky l) (zg7 (l.map fun p => (p.1, p.2.map TB.raw))) (List.map fun p => (p.1, p.2.map TB.raw))
 | [] => Sim.ret rfl
 | (i, p) :: rest => Sim.bind (zue p) fun q => Sim.bind (zi8 rest) fun qs => Sim.ret rfl
theorem z2l {e : ETy} {n : Nat} (hn : sz e = n) : ∀ {ps : List (Nat × List TB)} {xs ys : List (den e)}, zaen e xs ps = some ys → ys.length = xs.length ∧ zgv (fun i => some (i * n, n)) (xs.flatMap (encB e)) (ps.map fun p => (p.1, p.2.map TB.raw)) = some (ys.flatMap (encB e))
 | [], xs, ys, h => by simp only [zaen, qc] at h; subst h; exact ⟨rfl, rfl⟩
 | (i, p) :: ps, xs, ys, h => by
  simp only [zaen] at h
  split at h
  ·rename_i x hx
   split at h
   ·rename_i hlt
    obtain ⟨h1, h2⟩ := z2l hn h
    rw [qy] at h1
    refine ⟨h1, ?_⟩
    have hpl : (p.map TB.raw).length = n := by rw [zjf hx, zam, hn]
    have hmul : (i + 1) * n ≤ xs.length * n := ki _ hlt
    rw [Nat.add_mul, Nat.one_mul] at hmul
    have hlen : (xs.flatMap (encB e)).length = xs.length * n := by rw [za3 (zam e), hn]
    simp only [qu, zgv]
    rw [if_pos ⟨hpl, by rw [hlen]; exact hmul⟩]
    have hset := zaa1 (zam e) (qb hlt) (y := x) (fo := 0) (cs := p.map TB.raw) (by rw [hpl, hn]; omega) (by
     rw [zjf hx]
     simp [ke, zam])
    rw [hn, hpl, Nat.add_zero] at hset
    rw [hset]
    exact h2
   ·cases h
  ·cases h
theorem zafa {o : Oper} {t : TypeId} {parts : Array (Nat × Operand)} {base : Nat} (hev : EvR ev ev') (ho : o.op = .build t parts) : Sim (zao7 P ev t parts.toList) (act P o ev' base) TV.raw := by
 unfold zao7
 split
 ·rename_i fields z ps hu hz hps
  obtain ⟨dst, op, type, pos, after, guard⟩ := o
  simp only at ho
  subst ho
  simp only [act]
  have hz' : zeroCells P t = some (z.map TB.raw) := by
   unfold zhc at hz
   unfold zeroCells
   obtain ⟨zv, h1, h2⟩ := qx.1 hz
   rw [h1, Option.map_some, zjp h2]
  rw [hu, hz', zi2 hev hps]
  simp only []
  refine Sim.iteF fun hc => Sim.pos hc ?_
  cases hf : zaeo (fun i => (fields[i]?).map fun (f : Field) => (f.offset, P.cellsOf f.type)) z ps with
  | none => exact Sim.fail
  | some cs =>
   rw [z2m hf]
   exact Sim.ret rfl
 ·exact Sim.fail
theorem zacm {e : ETy} {n : Nat} (hn : sz e = n) : ∀ {ps : List (Nat × List TB)} {k : Nat} {cells : List B} {xs : List (den e)}, seqE e k ps = some xs → cells.length = (k + xs.length) * n →
  zgv (fun i => some (i * n, n)) cells (ps.map fun p => (p.1, p.2.map TB.raw)) = some (cells.take (k * n) ++ xs.flatMap (encB e))
 | [], k, cells, xs, h, hl => by
  simp only [seqE, qc] at h
  subst h
  simp only [qq, Nat.add_zero] at hl
  simp [zgv, ← hl]
 | (i, p) :: rest, k, cells, xs, h, hl => by
  simp only [seqE] at h
  split at h
  ·rename_i hik
   subst hik
   split at h
   ·rename_i x ys hx hys
    cases h
    have hp := zjf hx
    have hpl : (p.map TB.raw).length = n := by rw [hp, zam, hn]
    have hsz : (i + 1 + ys.length) * n = i * n + n + ys.length * n := by rw [Nat.add_mul, Nat.add_mul, Nat.one_mul]
    have hl' : cells.length = i * n + n + ys.length * n := by rw [hl, qk, ← hsz]; congr 1; omega
    simp only [qu, zgv]
    rw [if_pos ⟨hpl, by omega⟩]
    have ht : (cells.take (i * n)).length = i * n := by rw [kp]; omega
    have hc' : (cells.take (i * n) ++ (p.map TB.raw ++ cells.drop (i * n + n))).length = (i + 1 + ys.length) * n := by
     rw [ql, ql, ht, hpl, kb, hsz]; omega
    rw [zacm hn hys hc']
    have : (cells.take (i * n) ++ (p.map TB.raw ++ cells.drop (i * n + n))).take ((i + 1) * n) = cells.take (i * n) ++ p.map TB.raw := by
     rw [← List.append_assoc, List.take_left' (by rw [ql, ht, hpl, Nat.add_mul, Nat.one_mul])]
    rw [this, hp, List.flatMap_cons, List.append_assoc]
   ·cases h
  ·cases h
theorem zub {o : Oper} {t : TypeId} {n : Nat} {parts : Array (Nat × Operand)} {base : Nat} (hev : EvR ev ev') (ho : o.op = .buildSlice t n parts) : Sim (zkw P ev t n parts.toList base) (act P o ev' base) TV.raw := by
 unfold zkw
 split
 ·rename_i et ps het hps
  obtain ⟨dst, op, type, pos, after, guard⟩ := o
  simp only at ho
  subst ho
  simp only [act]
  rw [het, zi2 hev hps]
  simp only []
  split
  ·rename_i e z hz
   obtain ⟨he, hzr⟩ := zjb hz
   rw [hzr]
   simp only []
   refine Sim.iteF fun ⟨c1, c2, c3⟩ => Sim.pos ⟨by rw [zam, c1], c2, c3⟩ ?_
   refine Sim.bind (zi8 ps) fun qs => ?_
   cases hf : zaen e (List.replicate n z) qs with
   | none =>
    simp only []
    split
    ·rename_i e0 z _
     cases hs : seqE (.list false e0) 0 qs with
     | none => exact Sim.fail
     | some xs =>
      refine Sim.iteF fun hxl => ?_
      have c1' : P.cellsOf et = 1 := c1.symm
      have h2 := zacm (e := .list false e0) (n := P.cellsOf et) c1 hs (cells := (List.replicate n (encB (.list true e0) z)).flatten) (by
       have hz1 : ∀ (z : den (.list true e0)), (encB (.list true e0) z).length = 1 := fun _ => rfl
       rw [hxl, c1', Nat.mul_one, Nat.zero_add, List.length_flatten, List.map_replicate, hz1]
       simp)
      rw [Nat.zero_mul, List.take_zero, qw] at h2
      rw [h2]
      exact Sim.mk (by simp only [TRoot.raw, c1']; rfl) (Sim.ret rfl)
    ·exact Sim.fail
   | some xs =>
    obtain ⟨h1, h2⟩ := z2l c1 hf
    have e1 : (List.replicate n z).flatMap (encB e) = (List.replicate n (encB e z)).flatten := by simp [List.flatMap]
    rw [e1] at h2
    rw [h2]
    exact Sim.mk (by simp only [TRoot.raw, c1]) (Sim.ret rfl)
  ·exact Sim.fail
 ·exact Sim.fail
end
end Go.Gm
