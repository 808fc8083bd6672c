import Derived.Test.YtppalpflejcjeaaGreatQGt6
namespace Go.Gm
set_option linter.unusedSimpArgs false
set_option linter.unusedVariables false
section
variable {P : Program} {ev : Operand → Option TV} {ev' : Operand → Option V}
theorem closeAll_flat {e : ETy} (xs : List (den e)) : closeAll (xs.flatMap (encB e)) = .ret (xs.flatMap (encB e)) := by
 unfold closeAll; rw [if_pos flatB_closed.1]
theorem sim_appendT {t tx : TypeId} {s x : Option TV} {s' x' : Option V} {base : Nat} (hs : RelO s s') (hx : RelO x x') : Sim (appendT P t tx s x base) (actAppend P t tx s' x' base) TV.raw := by
 unfold appendT
 split
 ·rename_i et ex sb xb het hex
  have e1 := hs _ rfl
  have e2 := hx _ rfl
  simp only [TV.raw, TG.raw] at e1 e2
  unfold actAppend
  rw [het, hex, e1, e2]
  simp only []
  cases he : ety P et with
  | none => exact Sim.fail
  | some e =>
   simp only []
   obtain ⟨hsz, hok⟩ := ety_sz he
   cases hlen : lenB (some (.g (.b xb.raw))) with
   | none =>
    cases xb <;> first
     | exact Sim.fail
     | (simp [TB.raw, lenB] at hlen)
   | some n =>
    simp only []
    refine Sim.content fun e0 xs0 hl => ?_
    simp only []
    cases hc : castL e0 e xs0 with
    | none => exact Sim.fail
    | some ys =>
     simp only []
     obtain ⟨hcl, hcB, _⟩ := castL_B hc
     have hn : n = ys.length := by rw [hlen] at hl; simp at hl; omega
     refine Sim.iteF fun ⟨c1, c2⟩ => ?_
     rw [hcB]
     refine Sim.pos ⟨by rw [flat_length (encB_length e), hsz, hn], c1, c2⟩ ?_
     rw [closeAll_flat]
     show Sim _ (if (ys.flatMap (encB e)).all B.isCell then _ else _) _
     refine Sim.pos flatB_closed.2 ?_
     cases sb <;> try exact Sim.fail
     case rf r g off len =>
      show Sim (TP.get r _) (Pr.get r _) _
      refine Sim.get fun rt => ?_
      cases rt with
      | rcd g' cs => exact Sim.fail
      | row g' e' xs1 =>
       show Sim (match castL e' e xs1 with | some xs => _ | none => _) _ _
       cases hc1 : castL e' e xs1 with
       | none => exact Sim.fail
       | some xs =>
        obtain ⟨_, hB1, _⟩ := castL_B hc1
        refine Sim.iteF fun ⟨d1, d2⟩ => Sim.guard fun hd => Sim.guard fun hb => ?_
        have hd := of_decide_eq_true hd
        have hb := of_decide_eq_true hb
        have hcells : (TRoot.row g' e' xs1).raw.cells = xs.flatMap (encB e) := hB1
        have hes : (TRoot.row g' e' xs1).raw.es = sz e := by show sz e' = sz e; rw [d2, hsz]
        refine Sim.pos ⟨d1, by rw [hes, hsz], by rw [hcells, hes, flat_length (encB_length e)]; exact Nat.mul_le_mul_right _ hd, rfl, by rw [hn]; exact hb⟩ ?_
        refine Sim.put ?_ (Sim.ret (by rw [hn]; rfl))
        rw [hcells, hes, flat_win (encB_length e), ← List.flatMap_append]
        simp only [TRoot.raw, d2, hsz]
     case ro e3 xs3 ex3 lo3 =>
      cases ex3 with
      | false => exact Sim.fail
      | true =>
       show Sim (match castL e3 e xs3 with | some xs => _ | none => _) _ _
       cases hc1 : castL e3 e xs3 with
       | none => exact Sim.fail
       | some xs =>
        obtain ⟨hl1, _, hC1⟩ := castL_B hc1
        refine Sim.guard fun hd => Sim.guard fun hb => ?_
        have hd := of_decide_eq_true hd
        have hb := of_decide_eq_true hb
        show Sim _ (if (xs3.flatMap (encC e3)).length = xs3.length * P.cellsOf et ∧ _ then _ else _) _
        rw [hC1, hl1]
        refine Sim.pos ⟨by rw [flat_length (encC_length e), hsz], by rw [hn]; exact hb⟩ ?_
        refine Sim.neg (by rw [hn]; exact hd) ?_
        refine Sim.mk ?_ (Sim.ret (by rw [hn]; rfl))
        rw [toB_flat hok, ← List.flatMap_append]
        simp only [TRoot.raw, hsz]
 ·exact Sim.fail
theorem bytesOf_enc : ∀ (zs : List Int), bytesOfCells (zs.flatMap (encB (.int .u8))) = some (zs.map fun z => UInt8.ofNat z.toNat)
 | [] => rfl
 | z :: zs => by
  have := bytesOf_enc zs
  show bytesOfCells (.v (.int .u8 z) :: zs.flatMap (encB (.int .u8))) = _
  simp only [bytesOfCells, this, Option.map_some, List.map_cons]
theorem bytes_encC : ∀ (l : List UInt8), (l.map fun b => (b.toNat : Int)).flatMap (encC (.int .u8)) = l.map fun b => C.v (.int .u8 b.toNat)
 | [] => rfl
 | b :: l => by
  have := bytes_encC l
  simp only [List.map_cons, List.flatMap_cons, this]
  rfl
theorem flat_rep {α β : Type} (f : α → List β) (x : α) : ∀ n, (List.replicate n (f x)).flatten = (List.replicate n x).flatMap f
 | 0 => rfl
 | n + 1 => by rw [List.replicate_succ, List.replicate_succ, List.flatten_cons, List.flatMap_cons, flat_rep f x n]
theorem splice_flat {e : ETy} (xs ys : List (den e)) (off : Nat) : (spliceT xs off ys).flatMap (encB e) = spliceB (xs.flatMap (encB e)) (off * sz e) (ys.flatMap (encB e)) := by
 unfold spliceT spliceB
 rw [List.flatMap_append, List.flatMap_append, ← flat_take (encB_length e), ← flat_drop (encB_length e), flat_length (encB_length e) ys, Nat.add_mul]
theorem sim_clearT {t : TypeId} {x : Option TV} {x' : Option V} (hx : RelO x x') : Sim (clearT P t x) (actClear P t x') TV.raw := by
 unfold clearT
 split
 ·rename_i et r g off len he
  have e1 := hx _ rfl
  simp only [TV.raw, TG.raw, TB.raw] at e1
  unfold actClear
  rw [he, e1]
  simp only []
  split
  ·rename_i e0 z hz
   obtain ⟨_, hzr⟩ := zeroElem_raw hz
   rw [hzr]
   simp only []
   refine Sim.get fun rt => ?_
   cases rt with
   | rcd g' cs => exact Sim.fail
   | row g' e xs =>
    simp only []
    split
    ·rename_i z' zs hcast
     obtain ⟨hl, hB, _⟩ := castL_B hcast
     have hB1 : encB e0 z = encB e z' := by
      rcases castL_sz hcast with rfl | ⟨h, _⟩
      ·obtain ⟨_, h, _⟩ := castL_B hcast
       simp only [List.flatMap_cons, List.flatMap_nil, List.append_nil] at h
       have : zs = [] := by
        have := hl
        simp only [List.length_cons, List.length_nil] at this
        exact List.eq_nil_of_length_eq_zero (by omega)
       subst this
       simpa using h
      ·cases h
     refine Sim.iteF fun hg => Sim.guard fun hd => ?_
     have hd := of_decide_eq_true hd
     have hlen : (encB e0 z).length = sz e := by rw [hB1, encB_length]
     have hrl : (xs.flatMap (encB e)).length = xs.length * sz e := flat_length (encB_length e) xs
     refine Sim.pos ⟨hg, rfl, hlen, ?_, hd.1, sz_pos e, ?_⟩ (Sim.put ?_ (Sim.ret rfl))
     ·rw [List.all_eq_true]; intro y hy; exact (encB_closed e0 z y hy).2
     ·simp only [TRoot.raw]; rw [hrl]; exact Nat.mul_le_mul_right _ hd.2
     ·simp only [TRoot.raw, splice_flat, hB1, flat_rep]
    ·exact Sim.fail
  ·exact Sim.fail
 ·exact Sim.fail
theorem sim_copyT {t : TypeId} {d s : Option TV} {d' s' : Option V} (hd : RelO d d') (hs : RelO s s') : Sim (copyT P t d s) (actCopy P t d' s') TV.raw := by
 unfold copyT
 split
 ·rename_i et r g off len sb he
  have e1 := hd _ rfl
  have e2 := hs _ rfl
  simp only [TV.raw, TG.raw, TB.raw] at e1
  simp only [TV.raw, TG.raw] at e2
  unfold actCopy
  rw [he, e1, e2]
  simp only []
  cases hlen : lenB (some (.g (.b sb.raw))) with
  | none =>
   cases sb <;> first
    | exact Sim.fail
    | (simp [TB.raw, lenB] at hlen)
  | some n =>
   simp only []
   refine Sim.content fun e0 xs0 hl => ?_
   have hn0 : n = xs0.length := by rw [hlen] at hl; simpa using hl
   refine Sim.get fun rt => ?_
   cases rt with
   | rcd g' cs => exact Sim.fail
   | row g' e xs =>
    simp only []
    cases hc : castL e0 e xs0 with
    | none => exact Sim.fail
    | some ys =>
     simp only []
     obtain ⟨hcl, hcB, _⟩ := castL_B hc
     have hn : n = ys.length := by omega
     refine Sim.iteF fun ⟨c1, c2⟩ => Sim.guard fun hd => ?_
     have hd := of_decide_eq_true hd
     rw [hcB, hn]
     have hfl := flat_length (encB_length e) ys
     refine Sim.pos ⟨c1, rfl, c2, hd.1, sz_pos e, hfl, flatB_closed.1, flatB_closed.2, ?_⟩ (Sim.put ?_ (Sim.ret rfl))
     ·simp only [TRoot.raw]; rw [flat_length (encB_length e)]; exact Nat.mul_le_mul_right _ hd.2
     ·simp only [TRoot.raw, splice_flat, flat_take (encB_length e)]
 ·exact Sim.fail
theorem sim_convertT {o : Oper} {src dst : TypeId} {x : Operand} {base : Nat} (hev : EvR ev ev') (ho : o.op = .convert src dst x) : Sim (convertT P o ev src dst x base) (actConvert P o ev' src dst x base) TV.raw := by
 unfold convertT
 split
 ·rename_i e l hu1 hu2 hx
  have e1 := hev x _ hx
  simp only [TV.raw, TG.raw, TB.raw] at e1
  unfold actConvert
  rw [hu1, hu2, e1]
  simp only []
  split
  ·rename_i he
   rw [he]
   refine Sim.guard fun hd => ?_
   have hd := of_decide_eq_true hd
   refine Sim.pos hd (Sim.ret ?_)
   simp only [TV.raw, TG.raw, TB.raw, bytesI, List.length_map]
   congr 4
   exact bytes_encC l
  ·exact Sim.fail
 ·rename_i e y hu1 hu2 hx
  have e1 := hev x _ hx
  simp only [TV.raw, TG.raw] at e1
  unfold actConvert
  rw [hu1, hu2, e1]
  simp only []
  split
  ·rename_i he
   rw [he]
   refine Sim.content fun e0 xs0 hl => ?_
   simp only []
   cases hc : castL e0 (.int .u8) xs0 with
   | none => exact Sim.fail
   | some zs =>
    simp only []
    obtain ⟨hcl, hcB, _⟩ := castL_B hc
    rw [hcB, hl]
    have := bytesOf_enc zs
    rw [this]
    simp only []
    refine Sim.pos (by simp [hcl]) (Sim.ret rfl)
  ·exact Sim.fail
 ·rename_i h1 h2
  unfold actConvert
  by_cases hall : allConcT ev o.op.operands.toList = true
  ·obtain ⟨v, _, hv, _⟩ := allConcT_spec hall x (by rw [ho]; simp [Op.operands])
   have e1 := hev x v hv
   split
   ·rename_i e s hu1 hu2 hx
    exfalso
    rw [hx] at e1
    cases v with
    | g v =>
     cases v with
     | b v =>
      cases v <;> simp [TV.raw, TG.raw, TB.raw] at e1
      exact h1 _ _ hu1 hu2 hv
     | ag l => simp [TV.raw, TG.raw] at e1
    | cl f c => simp [TV.raw] at e1
    | tp l => simp [TV.raw] at e1
   ·rename_i e y _ hu1 hu2 hx
    exfalso
    rw [hx] at e1
    cases v with
    | g v =>
     cases v with
     | b v => exact h2 _ _ hu1 hu2 hv
     | ag l => simp [TV.raw, TG.raw] at e1
    | cl f c => simp [TV.raw] at e1
    | tp l => simp [TV.raw] at e1
   ·exact sim_pureT hev
  ·have : pureT P o ev = .fail := by unfold pureT; rw [if_neg hall]
   rw [this]; exact Sim.fail
end
end Go.Gm
