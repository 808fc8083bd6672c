import Derived.Test.YtppalpflejcjeaaGreatQGt11
namespace Go.Gm
set_option linter.unusedSimpArgs false
set_option linter.unusedVariables false
section
variable {w0 : World} {ρ0 : Rho} {R0 : Tab}
theorem keepT_R {w : World} {ρ : Rho} {R : Tab} {N : Nat} {s : TSlots} {a : Act} (hs : SlotsOK N w ρ R (look (rawSlots s)) a) : ∀ {l : List (Nat × Option ETy)} {vs : List TV}, keepT s l = some vs →
  RVs w ρ R (vs.map TV.raw) (l.map fun p => a.tmps.getD p.1 undef)
 | [], vs, h => by simp only [keepT, Option.some.injEq] at h; subst h; exact ⟨rfl, fun i x y hx => by simp at hx⟩
 | (t, e) :: l, vs, h => by
  simp only [keepT] at h
  split at h
  ·rename_i v vs' h1 h2
   cases h
   exact RVs.cons (hs.val t _ (by rw [lookT_raw, h1]; rfl)) (keepT_R hs h2)
  ·cases h
theorem zip_look {f : V → V} : ∀ {l : List (Nat × Option ETy)} {vs : List V} {ys : List Value} {t : Nat} {v : V}, look ((l.map (·.1)).zip (vs.map f)) t = some v → vs.length = l.length →
  ∃ (i : Nat) (x : V), vs[i]? = some x ∧ v = f x ∧ (l[i]?).map (·.1) = some t
 | [], vs, ys, t, v, h, hl => by simp [look] at h
 | p :: l, [], ys, t, v, h, hl => by simp at hl
 | p :: l, x :: vs, ys, t, v, h, hl => by
  simp only [List.map_cons, List.zip_cons_cons, look] at h
  split at h
  ·rename_i e; cases h; exact ⟨0, x, rfl, rfl, by simp [e]⟩
  ·obtain ⟨i, y, h1, h2, h3⟩ := zip_look (ys := ys) h (by simpa using hl)
   exact ⟨i + 1, y, by simpa using h1, h2, by simpa using h3⟩
theorem rawSlots_zip (l : List (Nat × Option ETy)) (vs : List TV) (φ : Nat → Nat → Option (Nat × Nat)) (f : V → V) (hf : ∀ v : TV, (v.mapR φ).raw = f v.raw) : rawSlots ((l.map (·.1)).zip (vs.map (TV.mapR φ))) = (l.map (·.1)).zip ((vs.map TV.raw).map f) := by
 induction l generalizing vs with
 | nil => rfl
 | cons p l ih =>
  cases vs with
  | nil => rfl
  | cons v vs =>
   simp only [List.map_cons, List.zip_cons_cons]
   show (p.1, (v.mapR φ).raw) :: rawSlots _ = _
   rw [hf, ih]
theorem headT_inv {N m : Nat} {live : List (Nat × Option ETy)} {s s' : TSlots} {R R' : TTab} {a : Act} {w : World} (hlive : AllZ R0) (hm : m = R0.length) (h : (headT m live s R).run = some (s', R')) (hi : Inv w0 ρ0 R0 N (rawSlots s) (rawTab R) a w) :
  Inv w0 ρ0 R0 N (rawSlots s') (rawTab R') a w := by
 unfold headT at h
 split at h
 ·rename_i vs hvs
  obtain ⟨⟨⟨ids, vs1⟩, R1, t1, c1⟩, h1, h2⟩ := T.bind_run h
  simp only [T.run, Option.some.injEq, Prod.mk.injEq] at h2
  obtain ⟨rfl, rfl⟩ := h2
  obtain ⟨ρ, st, hs⟩ := hi
  have hkeep := keepT_R hs hvs
  have hsim : Sim ((giveTVs (live.map (·.2)) vs).bind fun vs => (idsOfT m vs).bind fun ids => TP.ret (ids, vs))
    ((giveVs ((live.map (·.2)).map Option.isSome) (vs.map TV.raw)).bind fun vs => (idsOf m vs).bind fun ids => Pr.ret (ids, vs)) (fun p : TIds × List TV => (rawIds p.1, p.2.map TV.raw)) :=
   Sim.bind (sim_giveTVs _ vs) fun vs => Sim.bind (sim_idsOfT m vs) fun ids => Sim.ret rfl
  obtain ⟨hr, _, _⟩ := hsim _ _ _ _ _ _ _ h1
  obtain ⟨vs2, R2, g1, g2⟩ := Pr.bind_run hr
  obtain ⟨ids2, R3, g3, g4⟩ := Pr.bind_run g2
  obtain ⟨e1, e2⟩ := Pr.ret_run g4
  simp only [Prod.mk.injEq] at e1
  obtain ⟨rfl, rfl⟩ := e1
  subst e2
  obtain ⟨st1, hv1⟩ := sim_giveVs st.mem g1 hkeep
  have hc : compact R0.length (vs1.map TV.raw) R2 = some ((vs1.map TV.raw).map (renV m (rawIds ids)), tabOf m (rawIds ids) 0 (rawIds ids)) := by
   unfold compact; rw [← hm, g3]
  obtain ⟨ρ3, st3, f, hf, hR⟩ := Step.compact hlive (st.trans st1) hc
  refine ⟨ρ3, by rw [tabOfT_raw]; exact st3, hs.defers, hs.size, fun t v hv => ?_⟩
  rw [rawSlots_zip live vs1 (renT m ids) (renV m (rawIds ids)) (fun v => renTV_raw m ids v), hf] at hv
  have hlen : (vs1.map TV.raw).length = live.length := by rw [hv1.1]; simp
  obtain ⟨i, x, hx, rfl, hti⟩ := zip_look (ys := []) hv hlen
  obtain ⟨p, hp, rfl⟩ := Option.map_eq_some_iff.1 hti
  rw [tabOfT_raw]
  exact hR _ _ (hv1.2 i x _ hx (by rw [List.getElem?_map, hp]; rfl))
 ·cases h
end
def InvTo (s : TSlots) (R : TTab) (s' : TSlots) (R' : TTab) : Prop := ∀ ⦃w0 : World⦄ ⦃ρ0 : Rho⦄ ⦃R0 : Tab⦄ ⦃N : Nat⦄ ⦃a : Act⦄ ⦃w : World⦄, Inv w0 ρ0 R0 N (rawSlots s) (rawTab R) a w → Inv w0 ρ0 R0 N (rawSlots s') (rawTab R') a w
theorem told_of {E : TEnv} {told : Nat → Option SealT} {m : Nat} {c : Code} {α β : Type} {keep : Ex → List (Nat × Option ETy)} {dec : TSlots → TTab → T α} {st : α → TSlots × TTab} {rd : Ex × TSlots × TTab → T (α ⊕ β)} {step : α → T (α ⊕ β)} {out : β → Ex × TSlots × TTab} {cs : β → T (Ex × TSlots × TTab)}
  (hmix : E.P.follows .mixedOrders = true) (hlib : E.LibOK) (hrec : ∀ f, FnOK E.P f (E.raw f)) (hloops : LoopsOK E.P m told c)
  (hdec : ∀ s R v, (dec s R).run = some v → InvTo s R (st v).1 (st v).2)
  (hrd : ∀ x r, (rd x).run = some r → match r with
   | .inl v => x.1 = .norm ∧ InvTo x.2.1 x.2.2 (st v).1 (st v).2
   | .inr o => x.1 = (out o).1 ∧ InvTo x.2.1 x.2.2 (out o).2.1 (out o).2.2)
  (hcs : ∀ o x, (cs o).run = some x → x = out o) (hout : ∀ o, (out o).1 ≠ .norm) (hround : ∀ v, (roundT E told m keep c (st v).1 (st v).2).bind rd = step v) : ToldOK E.P m c (loopT m keep dec step cs) := by
 intro s R ex s' R' h w0 ρ0 R0 N a w Q hlive hm hf hi hQ
 obtain ⟨⟨s1, R1⟩, h1, h2⟩ := T.bind_run h
 obtain ⟨v, hv, h3⟩ := T.bind_run h2
 simp only [T.run] at h3
 obtain ⟨o, ho, h4⟩ := Option.bind_eq_some_iff.1 h3
 have h4 := (hcs _ _ h4).symm
 have hi1 := hdec _ _ _ hv (headT_inv hlive hm h1 hi)
 obtain ⟨n, hn⟩ := loopO_spec.1 ho
 let p : Act → World → Nat → Prop := fun a w k => ∃ v, loopN (fun v => (step v).run) k v = some o ∧ Inv w0 ρ0 R0 N (rawSlots (st v).1) (rawTab (st v).2) a w
 have hleast : ∀ a w, ∃ k, (∃ k, p a w k) → p a w k ∧ ∀ j, p a w j → k ≤ j := fun a w => least (p a w)
 have hQ' : ∀ a' w', Inv w0 ρ0 R0 N (rawSlots (out o).2.1) (rawTab (out o).2.2) a' w' → Q (out o).1.exit' a' w' := by rw [h4]; exact hQ
 have round : ∀ {v : α} {a : Act} {w : World} {K : Exit → Act → World → Prop} {r : α ⊕ β}, (step v).run = some r → Inv w0 ρ0 R0 N (rawSlots (st v).1) (rawTab (st v).2) a w →
   (match r with
    | .inl v' => ∀ a' w', Inv w0 ρ0 R0 N (rawSlots (st v').1) (rawTab (st v').2) a' w' → K .normal a' w'
    | .inr o => ∀ a' w', Inv w0 ρ0 R0 N (rawSlots (out o).2.1) (rawTab (out o).2.2) a' w' → K (out o).1.exit' a' w') → c.wp E.P K a w := by
  intro v a w K r hr hiv hK
  rw [← hround v] at hr
  obtain ⟨⟨ex1, s3, R3⟩, hrun, hr⟩ := T.bind_run hr
  obtain ⟨⟨ex2, s2, R2⟩, k1, k2⟩ := T.bind_run hrun
  have hc := evCT_sound hmix hlib hrec hloops k1
  obtain ⟨⟨s4, R4⟩, k3, k4⟩ := T.bind_run k2
  simp only [T.run, Option.some.injEq, Prod.mk.injEq] at k4
  obtain ⟨rfl, rfl, rfl⟩ := k4
  have hx := hrd _ _ hr
  cases r with
  | inl v' =>
   obtain ⟨e, hto⟩ := hx
   simp only at e
   subst e
   exact hc hlive hm hf hiv fun a' w' hi' => hK a' w' (hto (headT_inv hlive hm k3 hi'))
  | inr o' =>
   obtain ⟨e, hto⟩ := hx
   refine hc hlive hm hf hiv fun a' w' hi' => ?_
   have := hK a' w' (hto (headT_inv hlive hm k3 hi'))
   rw [← e] at this
   exact this
 refine wp_loop (I := fun a w => ∃ k, p a w k) (μ := fun a w => Classical.choose (hleast a w)) ⟨n, v, hn, hi1⟩ fun a w hI => ?_
 obtain ⟨⟨v1, h1, hi1⟩, hmin⟩ := Classical.choose_spec (hleast a w) hI
 generalize Classical.choose (hleast a w) = k at h1 hmin ⊢
 cases k with
 | zero => cases h1
 | succ k =>
  simp only [loopN] at h1
  cases hF : (step v1).run with
  | none => rw [hF] at h1; cases h1
  | some r =>
   rw [hF] at h1
   refine round hF hi1 ?_
   cases r with
   | inl v' =>
    intro a' w' hi'
    have hp : p a' w' k := ⟨v', h1, hi'⟩
    exact ⟨⟨k, hp⟩, Nat.lt_succ_of_le ((Classical.choose_spec (hleast a' w') ⟨k, hp⟩).2 k hp)⟩
   | inr o' =>
    simp only [Option.some.injEq] at h1
    subst h1
    intro a' w' hi'
    have hne := hout o'
    have := hQ' a' w' hi'
    cases hx : (out o').1 with
    | norm => exact absurd hx hne
    | exit i => rw [hx] at this; exact this
    | ret => rw [hx] at this; exact this
end Go.Gm
