import Derived.Test.YtpkbjabnchfgjaaGreatDoorWGt6
namespace Go.Gm
set_option linter.unusedSimpArgs false
set_option linter.unusedVariables false
section
variable {P : Program} {ev : Operand → Option TV} {ev' : Operand → Option V}
theorem zyi {e : ETy} (xs : List (den e)) : zfk (xs.flatMap (encB e)) = .ret (xs.flatMap (encB e)) := by
 unfold zfk; rw [if_pos zfq.1]
theorem z7u {t tx : TypeId} {s x : Option TV} {s' x' : Option V} {base : Nat} (hs : RelO s s') (hx : RelO x x') : Sim (z64 P t tx s x base) (zig P t tx s' x' base) TV.raw := by
 unfold z64
 split
 ·rename_i et ex sb xb het hex
  have e1 := hs _ rfl
  have e2 := hx _ rfl
  simp only [TV.raw, TG.raw] at e1 e2
  unfold zig
  rw [het, hex, e1, e2]
  simp only []
  cases he : ety P et with
  | none => exact Sim.fail
  | some e =>
   simp only []
   obtain ⟨hsz, hok⟩ := za4u he
   cases hlen : lenB (some (.g (.b xb.raw))) with
   | none =>
    cases xb <;> first
     | exact Sim.fail
     | (simp [TB.raw, lenB] at hlen)
   | some n =>
    simp only []
    refine Sim.content fun e0 xs0 hl => ?_
    simp only []
    cases hc : zdg e0 e xs0 with
    | none => exact Sim.fail
    | some ys =>
     simp only []
     obtain ⟨hcl, hcB, _⟩ := zek hc
     have hn : n = ys.length := by rw [hlen] at hl; simp at hl; omega
     refine Sim.iteF fun ⟨c1, c2⟩ => ?_
     rw [hcB]
     refine Sim.pos ⟨by rw [za3 (zam e), hsz, hn], c1, c2⟩ ?_
     rw [zyi]
     show Sim _ (if (ys.flatMap (encB e)).all B.isCell then _ else _) _
     refine Sim.pos zfq.2 ?_
     cases sb <;> try exact Sim.fail
     case rf r g off len =>
      show Sim (TP.get r _) (Pr.get r _) _
      refine Sim.get fun rt => ?_
      cases rt with
      | rcd g' cs => exact Sim.fail
      | row g' e' xs1 =>
       show Sim (match zdg e' e xs1 with | some xs => _ | none => _) _ _
       cases hc1 : zdg e' e xs1 with
       | none => exact Sim.fail
       | some xs =>
        obtain ⟨_, hB1, _⟩ := zek hc1
        refine Sim.iteF fun ⟨d1, d2⟩ => Sim.guard fun hd => Sim.guard fun hb => ?_
        have hd := ku hd
        have hb := ku hb
        have hcells : (TRoot.row g' e' xs1).raw.cells = xs.flatMap (encB e) := hB1
        have hes : (TRoot.row g' e' xs1).raw.es = sz e := by show sz e' = sz e; rw [d2, hsz]
        refine Sim.pos ⟨d1, by rw [hes, hsz], by rw [hcells, hes, za3 (zam e)]; exact ki _ hd, rfl, by rw [hn]; exact hb⟩ ?_
        refine Sim.put ?_ (Sim.ret (by rw [hn]; rfl))
        rw [hcells, hes, zlw (zam e), ← List.flatMap_append]
        simp only [TRoot.raw, d2, hsz]
     case ro e3 xs3 ex3 lo3 =>
      cases ex3 with
      | false => exact Sim.fail
      | true =>
       show Sim (match zdg e3 e xs3 with | some xs => _ | none => _) _ _
       cases hc1 : zdg e3 e xs3 with
       | none => exact Sim.fail
       | some xs =>
        obtain ⟨hl1, _, hC1⟩ := zek hc1
        refine Sim.guard fun hd => Sim.guard fun hb => ?_
        have hd := ku hd
        have hb := ku hb
        show Sim _ (if (xs3.flatMap (encC e3)).length = xs3.length * P.cellsOf et ∧ _ then _ else _) _
        rw [hC1, hl1]
        refine Sim.pos ⟨by rw [za3 (zby e), hsz], by rw [hn]; exact hb⟩ ?_
        refine Sim.neg (by rw [hn]; exact hd) ?_
        refine Sim.mk ?_ (Sim.ret (by rw [hn]; rfl))
        rw [zacz hok, ← List.flatMap_append]
        simp only [TRoot.raw, hsz]
 ·exact Sim.fail
theorem zsp : ∀ (zs : List Int), za9 (zs.flatMap (encB (.int .u8))) = some (zs.map fun z => UInt8.ofNat z.toNat)
 | [] => rfl
 | z :: zs => by
  have := zsp zs
  show za9 (.v (.int .u8 z) :: zs.flatMap (encB (.int .u8))) = _
  simp only [za9, this, Option.map_some, qu]
theorem zvp : ∀ (l : List UInt8), (l.map fun b => (b.toNat : Int)).flatMap (encC (.int .u8)) = l.map fun b => C.v (.int .u8 b.toNat)
 | [] => rfl
 | b :: l => by
  have := zvp l
  simp only [qu, List.flatMap_cons, this]
  rfl
theorem zaa0 {α β : Type} (f : α → List β) (x : α) : ∀ n, (List.replicate n (f x)).flatten = (List.replicate n x).flatMap f
 | 0 => rfl
 | n + 1 => by rw [List.replicate_succ, List.replicate_succ, List.flatten_cons, List.flatMap_cons, zaa0 f x n]
theorem zus {e : ETy} (xs ys : List (den e)) (off : Nat) : (zbo xs off ys).flatMap (encB e) = zg3 (xs.flatMap (encB e)) (off * sz e) (ys.flatMap (encB e)) := by
 unfold zbo zg3
 rw [List.flatMap_append, List.flatMap_append, ← zit (zam e), ← zs9 (zam e), za3 (zam e) ys, Nat.add_mul]
theorem zafb {t : TypeId} {x : Option TV} {x' : Option V} (hx : RelO x x') : Sim (zapd P t x) (zli P t x') TV.raw := by
 unfold zapd
 split
 ·rename_i et r g off len he
  have e1 := hx _ rfl
  simp only [TV.raw, TG.raw, TB.raw] at e1
  unfold zli
  rw [he, e1]
  simp only []
  split
  ·rename_i e0 z hz
   obtain ⟨_, hzr⟩ := zjb hz
   rw [hzr]
   simp only []
   refine Sim.get fun rt => ?_
   cases rt with
   | rcd g' cs => exact Sim.fail
   | row g' e xs =>
    simp only []
    split
    ·rename_i z' zs hcast
     obtain ⟨hl, hB, _⟩ := zek hcast
     have hB1 : encB e0 z = encB e z' := by
      rcases zaaq hcast with rfl | ⟨h, _⟩
      ·obtain ⟨_, h, _⟩ := zek hcast
       simp only [List.flatMap_cons, List.flatMap_nil, kq] at h
       have : zs = [] := by
        have := hl
        simp only [qk, qq] at this
        exact ks (by omega)
       subst this
       simpa using h
      ·cases h
     refine Sim.iteF fun hg => Sim.guard fun hd => ?_
     have hd := ku hd
     have hlen : (encB e0 z).length = sz e := by rw [hB1, zam]
     have hrl : (xs.flatMap (encB e)).length = xs.length * sz e := za3 (zam e) xs
     refine Sim.pos ⟨hg, rfl, hlen, ?_, hd.1, zpp e, ?_⟩ (Sim.put ?_ (Sim.ret rfl))
     ·rw [qt]; intro y hy; exact (zgl e0 z y hy).2
     ·simp only [TRoot.raw]; rw [hrl]; exact ki _ hd.2
     ·simp only [TRoot.raw, zus, hB1, zaa0]
    ·exact Sim.fail
  ·exact Sim.fail
 ·exact Sim.fail
theorem zaua {t : TypeId} {d s : Option TV} {d' s' : Option V} (hd : RelO d d') (hs : RelO s s') : Sim (zbck P t d s) (zsf P t d' s') TV.raw := by
 unfold zbck
 split
 ·rename_i et r g off len sb he
  have e1 := hd _ rfl
  have e2 := hs _ rfl
  simp only [TV.raw, TG.raw, TB.raw] at e1
  simp only [TV.raw, TG.raw] at e2
  unfold zsf
  rw [he, e1, e2]
  simp only []
  cases hlen : lenB (some (.g (.b sb.raw))) with
  | none =>
   cases sb <;> first
    | exact Sim.fail
    | (simp [TB.raw, lenB] at hlen)
  | some n =>
   simp only []
   refine Sim.content fun e0 xs0 hl => ?_
   have hn0 : n = xs0.length := by rw [hlen] at hl; simpa using hl
   refine Sim.get fun rt => ?_
   cases rt with
   | rcd g' cs => exact Sim.fail
   | row g' e xs =>
    simp only []
    cases hc : zdg e0 e xs0 with
    | none => exact Sim.fail
    | some ys =>
     simp only []
     obtain ⟨hcl, hcB, _⟩ := zek hc
     have hn : n = ys.length := by omega
     refine Sim.iteF fun ⟨c1, c2⟩ => Sim.guard fun hd => ?_
     have hd := ku hd
     rw [hcB, hn]
     have hfl := za3 (zam e) ys
     refine Sim.pos ⟨c1, rfl, c2, hd.1, zpp e, hfl, zfq.1, zfq.2, ?_⟩ (Sim.put ?_ (Sim.ret rfl))
     ·simp only [TRoot.raw]; rw [za3 (zam e)]; exact ki _ hd.2
     ·simp only [TRoot.raw, zus, zit (zam e)]
 ·exact Sim.fail
theorem z4f {o : Oper} {src dst : TypeId} {x : Operand} {base : Nat} (hev : EvR ev ev') (ho : o.op = .convert src dst x) : Sim (zyl P o ev src dst x base) (zfa P o ev' src dst x base) TV.raw := by
 unfold zyl
 split
 ·rename_i e l hu1 hu2 hx
  have e1 := hev x _ hx
  simp only [TV.raw, TG.raw, TB.raw] at e1
  unfold zfa
  rw [hu1, hu2, e1]
  simp only []
  split
  ·rename_i he
   rw [he]
   refine Sim.guard fun hd => ?_
   have hd := ku hd
   refine Sim.pos hd (Sim.ret ?_)
   simp only [TV.raw, TG.raw, TB.raw, zll, km]
   congr 4
   exact zvp l
  ·exact Sim.fail
 ·rename_i e y hu1 hu2 hx
  have e1 := hev x _ hx
  simp only [TV.raw, TG.raw] at e1
  unfold zfa
  rw [hu1, hu2, e1]
  simp only []
  split
  ·rename_i he
   rw [he]
   refine Sim.content fun e0 xs0 hl => ?_
   simp only []
   cases hc : zdg e0 (.int .u8) xs0 with
   | none => exact Sim.fail
   | some zs =>
    simp only []
    obtain ⟨hcl, hcB, _⟩ := zek hc
    rw [hcB, hl]
    have := zsp zs
    rw [this]
    simp only []
    refine Sim.pos (by simp [hcl]) (Sim.ret rfl)
  ·exact Sim.fail
 ·rename_i h1 h2
  unfold zfa
  by_cases hall : zhj ev o.op.operands.toList = true
  ·obtain ⟨v, _, hv, _⟩ := zce hall x (by rw [ho]; simp [Op.operands])
   have e1 := hev x v hv
   split
   ·rename_i e s hu1 hu2 hx
    exfalso
    rw [hx] at e1
    cases v with
    | g v =>
     cases v with
     | b v =>
      cases v <;> simp [TV.raw, TG.raw, TB.raw] at e1
      exact h1 _ _ hu1 hu2 hv
     | ag l => simp [TV.raw, TG.raw] at e1
    | cl f c => simp [TV.raw] at e1
    | tp l => simp [TV.raw] at e1
   ·rename_i e y _ hu1 hu2 hx
    exfalso
    rw [hx] at e1
    cases v with
    | g v =>
     cases v with
     | b v => exact h2 _ _ hu1 hu2 hv
     | ag l => simp [TV.raw, TG.raw] at e1
    | cl f c => simp [TV.raw] at e1
    | tp l => simp [TV.raw] at e1
   ·exact zft hev
  ·have : zl9 P o ev = .fail := by unfold zl9; rw [if_neg hall]
   rw [this]; exact Sim.fail
end
end Go.Gm
