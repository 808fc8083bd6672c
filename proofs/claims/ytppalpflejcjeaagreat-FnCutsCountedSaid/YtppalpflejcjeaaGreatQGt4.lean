import Derived.Test.YtppalpflejcjeaaGreatQGt3
import Derived.Laws.StructEq
namespace Go.Gm
set_option linter.unusedSimpArgs false
set_option linter.unusedVariables false
section
variable {P : Program} {ev : Operand → Option TV} {ev' : Operand → Option V}
theorem runPure_bind {α β : Type} : ∀ (s : Sem α) (f : α → Sem β), runPure P (s >>= f) = (runPure P s).bind fun a => runPure P (f a)
 | .pure a, f => rfl
 | .program k, f => runPure_bind (k P) f
 | .mark m k, f => runPure_bind k f
 | .load .., f | .store .., f | .new .., f | .shape .., f | .freeze .., f | .frozen .., f | .getObj .., f | .setObj .., f | .choose .., f | .sys .., f | .halt .., f => rfl
theorem ofVal_raw {x : Value} {y : TB} (h : ofVal x = some y) : y.raw = zcell x := by
 unfold ofVal at h
 split at h <;> first
  | (cases h; rfl)
  | (split at h
     ·rename_i f first caps hc
      cases h
      rw [Array.eq_empty_of_size_eq_zero hc.1, Array.eq_empty_of_size_eq_zero hc.2]; rfl
     ·cases h)
  | cases h
theorem ofVals_raw : ∀ {l : List Value} {ys : List TB}, ofVals l = some ys → ys.map TB.raw = l.map zcell
 | [], ys, h => by simp only [ofVals, Option.some.injEq] at h; subst h; rfl
 | x :: xs, ys, h => by
  simp only [ofVals] at h
  split at h
  ·rename_i y ys' h1 h2
   cases h
   simp [ofVal_raw h1, ofVals_raw h2]
  ·cases h
theorem ofConstT_raw {x : Value} {v : TV} (h : ofConstT x = some v) : ofConst x = v.raw := by
 unfold ofConstT at h
 split at h
 ·rename_i cs
  obtain ⟨l, hl, rfl⟩ := Option.map_eq_some_iff.1 h
  simp [ofConst, TV.raw, TG.raw, ofVals_raw hl]
 ·rename_i hn
  obtain ⟨y, hy, rfl⟩ := Option.map_eq_some_iff.1 h
  simp only [TV.raw, TG.raw, ofVal_raw hy]
  unfold ofConst
  split
  ·rename_i cs; exact absurd rfl (hn cs)
  ·rfl
theorem evT_raw {s : Nat → Option TV} {s' : Nat → Option V} (h : ∀ t v, s t = some v → s' t = some v.raw) : EvR (evT s) (evOf s') := by
 intro x v hv
 cases x with
 | tmp t => exact h t v hv
 | const y => simp only [evT] at hv; simp only [evOf, ofConstT_raw hv]
 | global g => cases hv
 | func f => simp only [evT, Option.some.injEq] at hv; subst hv; rfl
theorem conc_raw {x : TB} {v : Value} (h : x.conc = some v) : x.raw.conc = some v := by
 cases x <;> simp [TB.conc] at h <;> simp [TB.raw, B.conc, h]
theorem concs_raw : ∀ {xs : List TB} {vs : List Value}, concsT xs = some vs → concs (xs.map TB.raw) = some vs
 | [], vs, h => by simp only [concsT, Option.some.injEq] at h; subst h; rfl
 | x :: xs, vs, h => by
  simp only [concsT] at h
  split at h
  ·rename_i v vs' h1 h2
   cases h
   simp [concs, conc_raw h1, concs_raw h2]
  ·cases h
theorem TV.conc_raw {x : TV} {v : Value} (h : x.conc = some v) : x.raw.conc = some v := by
 cases x with
 | g x =>
  cases x with
  | b x => exact Go.Gm.conc_raw h
  | ag xs =>
   simp only [TV.conc] at h
   obtain ⟨l, hl, rfl⟩ := Option.map_eq_some_iff.1 h
   simp [TV.raw, TG.raw, V.conc, G.conc, concs_raw hl]
 | cl f caps => cases h
 | tp xs => cases h
theorem concOf_raw (hev : EvR ev ev') {x : Operand} {v : TV} {y : Value} (h : ev x = some v) (hy : v.conc = some y) : concOf ev' x = y ∧ ((ev' x).bind V.conc).isSome = true ∧ concOfT ev x = y := by
 have e1 : (ev' x).bind V.conc = some y := by rw [hev x v h]; exact TV.conc_raw hy
 have e2 : (ev x).bind TV.conc = some y := by rw [h]; exact hy
 exact ⟨by simp [concOf, e1], by rw [e1]; rfl, by simp [concOfT, e2]⟩
theorem allConcT_spec : ∀ {l : List Operand}, allConcT ev l = true → ∀ x ∈ l, ∃ v y, ev x = some v ∧ v.conc = some y
 | [], _, x, hx => by cases hx
 | y :: ys, h, x, hx => by
  simp only [allConcT, Bool.and_eq_true] at h
  rcases List.mem_cons.1 hx with rfl | hx
  ·obtain ⟨z, hz⟩ := Option.isSome_iff_exists.1 h.1
   obtain ⟨v, hv, hc⟩ := Option.bind_eq_some_iff.1 hz
   exact ⟨v, z, hv, hc⟩
  ·exact allConcT_spec h.2 x hx
theorem allConc_of : ∀ {l : List Operand}, (∀ x ∈ l, ((ev' x).bind V.conc).isSome = true) → allConc ev' l = true
 | [], _ => rfl
 | y :: ys, h => by
  simp only [allConc, Bool.and_eq_true]
  exact ⟨h y (by simp), allConc_of fun x hx => h x (List.mem_cons_of_mem _ hx)⟩
theorem pureOp_of {o : Oper} {y : Value} (hall : ∀ x ∈ o.op.operands.toList, ((ev' x).bind V.conc).isSome = true) (hns : ∀ cs b, o.op ≠ .select cs b) (hrun : runPure P (execOp (concOf ev') o) = some (.value y)) : pureOp P o ev' = some (lift y) := by
 unfold pureOp
 rw [if_pos (allConc_of hall)]
 split
 ·rename_i heq; exact absurd heq (hns _ _)
 ·rw [hrun]
theorem liftB_raw {x : Value} {y : TB} (h : liftB x = some y) : y.raw = .v x ∧ ∀ cs, x ≠ .agg cs := by
 unfold liftB at h
 split at h <;> first
  | (cases h; exact ⟨rfl, fun cs h => by cases h⟩)
  | (split at h
     ·rename_i f first caps hc
      cases h
      rw [Array.eq_empty_of_size_eq_zero hc.1, Array.eq_empty_of_size_eq_zero hc.2]; exact ⟨rfl, fun cs h => by cases h⟩
     ·cases h)
  | cases h
theorem liftBs_raw : ∀ {l : List Value} {ys : List TB}, liftBs l = some ys → ys.map TB.raw = l.map B.v
 | [], ys, h => by simp only [liftBs, Option.some.injEq] at h; subst h; rfl
 | x :: xs, ys, h => by
  simp only [liftBs] at h
  split at h
  ·rename_i y ys' h1 h2
   cases h
   simp [(liftB_raw h1).1, liftBs_raw h2]
  ·cases h
theorem liftT_raw {x : Value} {v : TV} (h : liftT x = some v) : lift x = v.raw := by
 unfold liftT at h
 split at h
 ·rename_i cs
  obtain ⟨l, hl, rfl⟩ := Option.map_eq_some_iff.1 h
  simp [lift, liftG, TV.raw, TG.raw, liftBs_raw hl]
 ·rename_i hn
  obtain ⟨y, hy, rfl⟩ := Option.map_eq_some_iff.1 h
  obtain ⟨h1, h2⟩ := liftB_raw hy
  simp only [TV.raw, TG.raw, h1, lift]
  unfold liftG
  split
  ·rename_i cs; exact absurd rfl (hn cs)
  ·rfl
theorem sim_pureT {o : Oper} (hev : EvR ev ev') : Sim (pureT P o ev) (Pr.ofOpt (pureOp P o ev')) TV.raw := by
 unfold pureT
 refine Sim.iteF fun hall => ?_
 split
 ·exact Sim.fail
 ·rename_i hns
  have hc : ∀ x ∈ o.op.operands, concOfT ev x = concOf ev' x := fun x hx => by
   obtain ⟨v, y, h1, h2⟩ := allConcT_spec hall x (Array.mem_toList_iff.2 hx)
   obtain ⟨a, _, c⟩ := concOf_raw hev h1 h2
   rw [a, c]
  have he : execOp (concOfT ev) o = execOp (concOf ev') o := execOp_congr o (fun cs b hs => hns cs b hs) hc
  split
  ·rename_i y hy
   rw [he] at hy
   refine Sim.ofOpt fun a ha => ?_
   rw [pureOp_of (fun x hx => by
    obtain ⟨v, y, h1, h2⟩ := allConcT_spec hall x hx
    exact (concOf_raw hev h1 h2).2.1) (fun cs b hs => hns cs b hs) hy, liftT_raw ha]
  ·exact Sim.fail
theorem sim_one {o : Oper} {x : TB} {y : Value} (hall : ∀ z ∈ o.op.operands.toList, ((ev' z).bind V.conc).isSome = true) (hns : ∀ cs b, o.op ≠ .select cs b) (hrun : runPure P (execOp (concOf ev') o) = some (.value y)) (hxy : x.raw = .v y) (hna : ∀ cs, y ≠ .agg cs) :
  Sim (.ret (.g (.b x))) (Pr.ofOpt (pureOp P o ev')) TV.raw := by
 rw [pureOp_of hall hns hrun]
 refine Sim.ret ?_
 simp only [TV.raw, TG.raw, hxy, lift]
 unfold liftG
 split
 ·rename_i cs; exact absurd rfl (hna cs)
 ·rfl
theorem valEqT_raw {x y : TB} {r : Bool} (h : valEqT x y = some r) : ∃ a b, x.raw.conc = some a ∧ y.raw.conc = some b ∧ valEq a b = some r := by
 have hs : ∀ a b : List UInt8, ((⟨a.toArray⟩ : ByteArray) == ⟨b.toArray⟩) = (a == b) := fun a b => (beq_toListBytes _ _).trans (by rw [ByteArray.toList_mk, ByteArray.toList_mk])
 cases x <;> cases y <;> try (simp [valEqT] at h; done)
 case int.int k a k' b =>
  simp [valEqT] at h
  obtain ⟨rfl, rfl⟩ := h
  exact ⟨_, _, rfl, rfl, by simp [valEq]⟩
 case str.str a b =>
  simp [valEqT] at h
  subst h
  refine ⟨_, _, rfl, rfl, ?_⟩
  show some _ = some _
  rw [hs]
 all_goals
  simp [valEqT] at h
  subst h
  exact ⟨_, _, rfl, rfl, by simp [valEq]⟩
theorem scalarTT_raw {t : TypeId} {x : TB} {a : Value} (h : scalarTT P t x = true) (ha : x.raw.conc = some a) : scalarT P t a = true := by
 unfold scalarTT at h
 split at h
 ·rename_i hu; cases ha; simp [scalarT, hu]; simpa using h
 ·rename_i hu; cases ha; simp [scalarT, hu]
 ·rename_i hu; cases ha; simp [scalarT, hu]
 ·rename_i hu; cases ha; simp [scalarT, hu]
 ·cases h
theorem eqFieldsT_raw {xs ys : List TB} : ∀ {fs : List Field} {r : Bool}, eqFieldsT P xs ys fs = some r → eqFieldsB P (xs.map TB.raw) (ys.map TB.raw) fs = some r
 | [], r, h => h
 | f :: fs, r, h => by
  simp only [eqFieldsT] at h
  split at h
  ·rename_i a b ha hb
   split at h
   ·rename_i hc
    split at h
    ·rename_i t u ht hu
     cases h
     obtain ⟨va, vb, h1, h2, h3⟩ := valEqT_raw ht
     simp only [eqFieldsB, List.getElem?_map, ha, hb, Option.map_some, Option.bind_some, h1, h2]
     rw [if_pos ⟨hc.1, scalarTT_raw hc.2.1 h1, scalarTT_raw hc.2.2 h2⟩, h3, eqFieldsT_raw hu]
    ·cases h
   ·cases h
  ·cases h
end
end Go.Gm
