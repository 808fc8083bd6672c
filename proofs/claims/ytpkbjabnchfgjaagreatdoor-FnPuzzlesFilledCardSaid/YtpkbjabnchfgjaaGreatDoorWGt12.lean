import Derived.Test.YtpkbjabnchfgjaaGreatDoorWGt11
namespace Go.Gm
set_option linter.unusedSimpArgs false
set_option linter.unusedVariables false
section
variable {w0 : World} {ρ0 : Rho} {R0 : Tab}
theorem zasf {w : World} {ρ : Rho} {R : Tab} {N : Nat} {s : zat} {a : Act} (hs : SlotsOK N w ρ R (look (zas s)) a) : ∀ {l : List (Nat × Option ETy)} {vs : List TV}, zase s l = some vs →
  RVs w ρ R (vs.map TV.raw) (l.map fun p => a.tmps.getD p.1 undef)
 | [], vs, h => by simp only [zase, qc] at h; subst h; exact ⟨rfl, fun i x y hx => by simp at hx⟩
 | (t, e) :: l, vs, h => by
  simp only [zase] at h
  split at h
  ·rename_i v vs' h1 h2
   cases h
   exact RVs.cons (hs.val t _ (by rw [zeo, h1]; rfl)) (zasf hs h2)
  ·cases h
theorem zac8 {f : V → V} : ∀ {l : List (Nat × Option ETy)} {vs : List V} {ys : List Value} {t : Nat} {v : V}, look ((l.map (·.1)).zip (vs.map f)) t = some v → vs.length = l.length →
  ∃ (i : Nat) (x : V), vs[i]? = some x ∧ v = f x ∧ (l[i]?).map (·.1) = some t
 | [], vs, ys, t, v, h, hl => by simp [look] at h
 | p :: l, [], ys, t, v, h, hl => by simp at hl
 | p :: l, x :: vs, ys, t, v, h, hl => by
  simp only [qu, List.zip_cons_cons, look] at h
  split at h
  ·rename_i e; cases h; exact ⟨0, x, rfl, rfl, by simp [e]⟩
  ·obtain ⟨i, y, h1, h2, h3⟩ := zac8 (ys := ys) h (by simpa using hl)
   exact ⟨i + 1, y, by simpa using h1, h2, by simpa using h3⟩
theorem z36 (l : List (Nat × Option ETy)) (vs : List TV) (φ : Nat → Nat → Option (Nat × Nat)) (f : V → V) (hf : ∀ v : TV, (v.mapR φ).raw = f v.raw) : zas ((l.map (·.1)).zip (vs.map (TV.mapR φ))) = (l.map (·.1)).zip ((vs.map TV.raw).map f) := by
 induction l generalizing vs with
 | nil => rfl
 | cons p l ih =>
  cases vs with
  | nil => rfl
  | cons v vs =>
   simp only [qu, List.zip_cons_cons]
   show (p.1, (v.mapR φ).raw) :: zas _ = _
   rw [hf, ih]
theorem ziw {N m : Nat} {live : List (Nat × Option ETy)} {s s' : zat} {R R' : TTab} {a : Act} {w : World} (hlive : AllZ R0) (hm : m = R0.length) (h : (zasb m live s R).run = some (s', R')) (hi : Inv w0 ρ0 R0 N (zas s) (zaf R) a w) :
  Inv w0 ρ0 R0 N (zas s') (zaf R') a w := by
 unfold zasb at h
 split at h
 ·rename_i vs hvs
  obtain ⟨⟨⟨ids, vs1⟩, R1, t1, c1⟩, h1, h2⟩ := T.bind_run h
  simp only [T.run, qc, qr] at h2
  obtain ⟨rfl, rfl⟩ := h2
  obtain ⟨ρ, st, hs⟩ := hi
  have hkeep := zasf hs hvs
  have hsim : Sim ((zn2 (live.map (·.2)) vs).bind fun vs => (zv8 m vs).bind fun ids => TP.ret (ids, vs))
    ((zv5 ((live.map (·.2)).map Option.isSome) (vs.map TV.raw)).bind fun vs => (z7j m vs).bind fun ids => Pr.ret (ids, vs)) (fun p : TIds × List TV => (zau p.1, p.2.map TV.raw)) :=
   Sim.bind (zla _ vs) fun vs => Sim.bind (zoj m vs) fun ids => Sim.ret rfl
  obtain ⟨hr, _, _⟩ := hsim _ _ _ _ _ _ _ h1
  obtain ⟨vs2, R2, g1, g2⟩ := Pr.bind_run hr
  obtain ⟨ids2, R3, g3, g4⟩ := Pr.bind_run g2
  obtain ⟨e1, e2⟩ := Pr.ret_run g4
  simp only [qr] at e1
  obtain ⟨rfl, rfl⟩ := e1
  subst e2
  obtain ⟨st1, hv1⟩ := zoi st.mem g1 hkeep
  have hc : compact R0.length (vs1.map TV.raw) R2 = some ((vs1.map TV.raw).map (renV m (zau ids)), zcg m (zau ids) 0 (zau ids)) := by
   unfold compact; rw [← hm, g3]
  obtain ⟨ρ3, st3, f, hf, hR⟩ := Step.compact hlive (st.trans st1) hc
  refine ⟨ρ3, by rw [zhb]; exact st3, hs.defers, hs.size, fun t v hv => ?_⟩
  rw [z36 live vs1 (renT m ids) (renV m (zau ids)) (fun v => zt1 m ids v), hf] at hv
  have hlen : (vs1.map TV.raw).length = live.length := by rw [hv1.1]; simp
  obtain ⟨i, x, hx, rfl, hti⟩ := zac8 (ys := []) hv hlen
  obtain ⟨p, hp, rfl⟩ := qf.1 hti
  rw [zhb]
  exact hR _ _ (hv1.2 i x _ hx (by rw [qn, hp]; rfl))
 ·cases h
end
def zu1 (s : zat) (R : TTab) (s' : zat) (R' : TTab) : Prop := ∀ ⦃w0 : World⦄ ⦃ρ0 : Rho⦄ ⦃R0 : Tab⦄ ⦃N : Nat⦄ ⦃a : Act⦄ ⦃w : World⦄, Inv w0 ρ0 R0 N (zas s) (zaf R) a w → Inv w0 ρ0 R0 N (zas s') (zaf R') a w
theorem zbex {E : TEnv} {told : Nat → Option zal} {m : Nat} {c : Code} {α β : Type} {keep : Ex → List (Nat × Option ETy)} {dec : zat → TTab → T α} {st : α → zat × TTab} {rd : Ex × zat × TTab → T (α ⊕ β)} {step : α → T (α ⊕ β)} {out : β → Ex × zat × TTab} {cs : β → T (Ex × zat × TTab)}
  (hmix : E.P.follows .mixedOrders = true) (hlib : E.LibOK) (hrec : ∀ f, FnOK E.P f (E.raw f)) (hloops : zfx E.P m told c)
  (hdec : ∀ s R v, (dec s R).run = some v → zu1 s R (st v).1 (st v).2)
  (hrd : ∀ x r, (rd x).run = some r → match r with
   | .inl v => x.1 = .norm ∧ zu1 x.2.1 x.2.2 (st v).1 (st v).2
   | .inr o => x.1 = (out o).1 ∧ zu1 x.2.1 x.2.2 (out o).2.1 (out o).2.2)
  (hcs : ∀ o x, (cs o).run = some x → x = out o) (hout : ∀ o, (out o).1 ≠ .norm) (hround : ∀ v, (zat2 E told m keep c (st v).1 (st v).2).bind rd = step v) : zan E.P m c (zbjp m keep dec step cs) := by
 intro s R ex s' R' h w0 ρ0 R0 N a w Q hlive hm hf hi hQ
 obtain ⟨⟨s1, R1⟩, h1, h2⟩ := T.bind_run h
 obtain ⟨v, hv, h3⟩ := T.bind_run h2
 simp only [T.run] at h3
 obtain ⟨o, ho, h4⟩ := qx.1 h3
 have h4 := (hcs _ _ h4).symm
 have hi1 := hdec _ _ _ hv (ziw hlive hm h1 hi)
 obtain ⟨n, hn⟩ := zjm.1 ho
 let p : Act → World → Nat → Prop := fun a w k => ∃ v, zps (fun v => (step v).run) k v = some o ∧ Inv w0 ρ0 R0 N (zas (st v).1) (zaf (st v).2) a w
 have hleast : ∀ a w, ∃ k, (∃ k, p a w k) → p a w k ∧ ∀ j, p a w j → k ≤ j := fun a w => zbkl (p a w)
 have hQ' : ∀ a' w', Inv w0 ρ0 R0 N (zas (out o).2.1) (zaf (out o).2.2) a' w' → Q (out o).1.exit' a' w' := by rw [h4]; exact hQ
 have round : ∀ {v : α} {a : Act} {w : World} {K : Exit → Act → World → Prop} {r : α ⊕ β}, (step v).run = some r → Inv w0 ρ0 R0 N (zas (st v).1) (zaf (st v).2) a w →
   (match r with
    | .inl v' => ∀ a' w', Inv w0 ρ0 R0 N (zas (st v').1) (zaf (st v').2) a' w' → K .normal a' w'
    | .inr o => ∀ a' w', Inv w0 ρ0 R0 N (zas (out o).2.1) (zaf (out o).2.2) a' w' → K (out o).1.exit' a' w') → c.wp E.P K a w := by
  intro v a w K r hr hiv hK
  rw [← hround v] at hr
  obtain ⟨⟨ex1, s3, R3⟩, hrun, hr⟩ := T.bind_run hr
  obtain ⟨⟨ex2, s2, R2⟩, k1, k2⟩ := T.bind_run hrun
  have hc := zbq hmix hlib hrec hloops k1
  obtain ⟨⟨s4, R4⟩, k3, k4⟩ := T.bind_run k2
  simp only [T.run, qc, qr] at k4
  obtain ⟨rfl, rfl, rfl⟩ := k4
  have hx := hrd _ _ hr
  cases r with
  | inl v' =>
   obtain ⟨e, hto⟩ := hx
   simp only at e
   subst e
   exact hc hlive hm hf hiv fun a' w' hi' => hK a' w' (hto (ziw hlive hm k3 hi'))
  | inr o' =>
   obtain ⟨e, hto⟩ := hx
   refine hc hlive hm hf hiv fun a' w' hi' => ?_
   have := hK a' w' (hto (ziw hlive hm k3 hi'))
   rw [← e] at this
   exact this
 refine wp_loop (I := fun a w => ∃ k, p a w k) (μ := fun a w => Classical.choose (hleast a w)) ⟨n, v, hn, hi1⟩ fun a w hI => ?_
 obtain ⟨⟨v1, h1, hi1⟩, hmin⟩ := Classical.choose_spec (hleast a w) hI
 generalize Classical.choose (hleast a w) = k at h1 hmin ⊢
 cases k with
 | zero => cases h1
 | succ k =>
  simp only [zps] at h1
  cases hF : (step v1).run with
  | none => rw [hF] at h1; cases h1
  | some r =>
   rw [hF] at h1
   refine round hF hi1 ?_
   cases r with
   | inl v' =>
    intro a' w' hi'
    have hp : p a' w' k := ⟨v', h1, hi'⟩
    exact ⟨⟨k, hp⟩, Nat.lt_succ_of_le ((Classical.choose_spec (hleast a' w') ⟨k, hp⟩).2 k hp)⟩
   | inr o' =>
    simp only [qc] at h1
    subst h1
    intro a' w' hi'
    have hne := hout o'
    have := hQ' a' w' hi'
    cases hx : (out o').1 with
    | norm => exact absurd hx hne
    | exit i => rw [hx] at this; exact this
    | ret => rw [hx] at this; exact this
end Go.Gm
