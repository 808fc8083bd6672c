/- Code, loops, functions: what the interpreter answers, the model's program returns. -/
import Derived.Test.YtppalpflejcjeaaGm15
import Derived.Tactics
namespace Go.Gm
set_option linter.unusedSimpArgs false
set_option linter.unusedVariables false
set_option linter.unnecessarySimpa false

/-- A function's text, as far as the interpreter steps through it, keeps to its frame. -/
def fits (N : Nat) : Code → Bool
  | .region _ ops _ => opsFit N ops
  | .seq a b => fits N a && fits N b
  | .cond _ a b => fits N a && fits N b
  | .block _ c => fits N c
  | .loop c => fits N c
  | _ => true

def Ex.exit' : Ex → Exit
  | .norm => .normal
  | .exit id => .exit id
  | .ret => .ret

section
variable {w0 : World} {ρ0 : Rho} {R0 : Tab}

/-- From a function's start to here. -/
def Inv (w0 : World) (ρ0 : Rho) (R0 : Tab) (N : Nat) (s : Slots) (R : Tab) (a : Act) (w : World) : Prop := ∃ ρ, Step w0 ρ0 R0 w ρ R ∧ SlotsOK N w ρ R (look s) a

/-- The roots are renumbered; the first ones stay. -/
theorem Step.compact {w : World} {ρ : Rho} {R R' : Tab} {vs vs' : List V} (hlive : AllZ R0) (st : Step w0 ρ0 R0 w ρ R) (h : compact R0.length vs R = some (vs', R')) :
    ∃ ρ', Step w0 ρ0 R0 w ρ' R' ∧ ∃ f : V → V, vs' = vs.map f ∧ ∀ x y, RV w ρ R x y → RV w ρ' R' (f x) y := by
  unfold Gm.compact at h
  split at h
  · rename_i ids R1 hids
    cases h
    obtain ⟨_, hi, hfirst⟩ := idsOf_spec hids
    have ho : ∀ b, ρ.out b → ρ.out b ∨ Own ρ R b := fun b hb => .inl hb
    have hm := Mem_ren (keep := R0.length) (out := ρ.out) st.mem hi ho (fun p hp b o hr => st.mem.apart b ⟨p.1, p.2, o, hi.live p hp, hr⟩)
    refine ⟨rhoOf ρ ids ρ.out, ⟨⟨fun b hb => ?_, st.ext.out, fun r e he hf => ?_⟩, hm, st.os, st.output, st.size, fun b hb => st.own b (own_ren' hi hb)⟩, _, rfl, fun x y hx => RV_ren hi ho hx⟩
    · obtain ⟨h1, h2⟩ := st.ext.stab b hb
      exact ⟨⟨h1.1, fun hb => h1.2 (own_ren' hi hb)⟩, h2⟩
    · have hlt : r < R0.length := (List.getElem?_eq_some_iff.1 he).1
      obtain ⟨rt, hj⟩ := hfirst r hlt
      have hl := hi.get hj
      obtain ⟨e', he', hf', hk⟩ := st.ext.ent r e he hf
      simp only at hl
      rw [hl] at he'; cases he'
      obtain ⟨rt0, hrt0, hg, hsame⟩ := hk rt rfl
      refine ⟨.live (renRoot R0.length ids r rt), by rw [tabOf_get, hj]; simp, (fun h => by cases h), fun rt' h => ?_⟩
      cases h
      have hgr : (renRoot R0.length ids r rt).g = min rt.g 1 := by simp [renRoot, hlt]
      have hz : rt0.g = 0 := by obtain ⟨rt1, e1, e2⟩ := hlive r e he; rw [hrt0] at e1; cases e1; exact e2
      have hlen : (renRoot R0.length ids r rt).cells.length = rt.cells.length := by
        show (if rt.row then rt.cells else rt.cells.map (renB R0.length ids)).length = _
        split <;> simp
      refine ⟨rt0, hrt0, by rw [hgr]; omega, fun hgg => ?_⟩
      rw [hgr] at hgg
      obtain ⟨s1, s2, s3, s4, s5⟩ := hsame (by omega)
      exact ⟨s1, s2, by simp [rhoOf, hj]; exact s3, by rw [hlen]; exact s4, s5⟩
  · cases h

theorem keepSlots_get {s : Slots} : ∀ {l : List Nat} {vs : List V}, keepSlots s l = some vs → ∀ (f : V → V) t v, look (l.zip (vs.map f)) t = some v → ∃ x, look s t = some x ∧ v = f x
  | [], vs, h, f, t, v, hv => by simp [look] at hv
  | t0 :: l, vs, h, f, t, v, hv => by
    simp only [keepSlots] at h
    split at h
    · rename_i v0 vs0 h1 h2
      cases h
      simp only [List.map_cons, List.zip_cons_cons, look] at hv
      split at hv
      · rename_i e; subst e; cases hv; exact ⟨v0, h1, rfl⟩
      · exact keepSlots_get h2 f t v hv
    · cases h

theorem head_inv {N : Nat} {live : List Nat} {s s' : Slots} {R R' : Tab} {a : Act} {w : World} (hlive : AllZ R0) (h : head R0.length live s R = some (s', R')) (hi : Inv w0 ρ0 R0 N s R a w) : Inv w0 ρ0 R0 N s' R' a w := by
  unfold head at h
  split at h
  · rename_i vs hvs
    split at h
    · rename_i vs' R1 hc
      cases h
      obtain ⟨ρ, st, hs⟩ := hi
      obtain ⟨ρ', st', f, hf, hR⟩ := Step.compact hlive st hc
      refine ⟨ρ', st', hs.defers, hs.size, fun t v hv => ?_⟩
      rw [hf] at hv
      obtain ⟨x, hx, rfl⟩ := keepSlots_get hvs f t v hv
      exact hR _ _ (hs.val t x hx)
    · cases h
  · cases h

variable {E : Env} {rec : FuncId → List V → Tab → Option (V × Tab)}

theorem least (p : Nat → Prop) : ∃ k, (∃ k, p k) → p k ∧ ∀ j, p j → k ≤ j := by
  have key : ∀ n, (∃ k, k ≤ n ∧ p k) → ∃ k, p k ∧ ∀ j, p j → k ≤ j := by
    intro n
    induction n with
    | zero => rintro ⟨k, hk, hp⟩; exact ⟨k, hp, fun j _ => by omega⟩
    | succ n ih =>
      rintro ⟨k, hk, hp⟩
      by_cases h : ∃ j, j ≤ n ∧ p j
      · exact ih h
      · refine ⟨k, hp, fun j hj => ?_⟩
        have : ¬ j ≤ n := fun hjn => h ⟨j, hjn, hj⟩
        omega
  by_cases h : ∃ k, p k
  · obtain ⟨k, hk⟩ := h
    obtain ⟨l, hl⟩ := key k ⟨k, Nat.le_refl _, hk⟩
    exact ⟨l, fun _ => hl⟩
  · exact ⟨0, fun h' => absurd h' h⟩

theorem ev_sound {N m n : Nat} {f : FuncId} (hmix : E.P.follows .mixedOrders = true) (hrec : ∀ f, FnOK E.P f (rec f)) (hlive : AllZ R0) (hm : m = R0.length) :
    ∀ {c : Code} {s s' : Slots} {R R' : Tab} {ex : Ex} {a : Act} {w : World} {Q : Exit → Act → World → Prop}, ev E rec m f n c s R = some (ex, s', R') → fits N c = true → Inv w0 ρ0 R0 N s R a w →
    (∀ a' w', Inv w0 ρ0 R0 N s' R' a' w' → Q ex.exit' a' w') → c.wp E.P Q a w
  | .skip, s, s', R, R', ex, a, w, Q, h, hf, hi, hQ => by
    simp only [ev, Option.some.injEq, Prod.mk.injEq] at h
    obtain ⟨rfl, rfl, rfl⟩ := h
    exact wp_skip (hQ a w hi)
  | .region id ops draw, s, s', R, R', ex, a, w, Q, h, hf, ⟨ρ, st, hs⟩, hQ => by
    simp only [ev] at h
    split at h
    · rename_i s1 R1 hr
      simp only [Option.some.injEq, Prod.mk.injEq] at h
      obtain ⟨rfl, rfl, rfl⟩ := h
      exact sim_region hmix hrec hf st.mem hs hr fun a' w' ρ' st' hs' => hQ a' w' ⟨ρ', st.trans st', hs'⟩
    · cases h
  | .seq x y, s, s', R, R', ex, a, w, Q, h, hf, hi, hQ => by
    simp only [fits, Bool.and_eq_true] at hf
    simp only [ev] at h
    refine wp_seq ?_
    cases hx : ev E rec m f n x s R with
    | none => rw [hx] at h; cases h
    | some r =>
      obtain ⟨ex1, s1, R1⟩ := r
      rw [hx] at h
      cases ex1 with
      | norm => exact ev_sound hmix hrec hlive hm hx hf.1 hi fun a' w' hi' => ev_sound hmix hrec hlive hm h hf.2 hi' hQ
      | exit id =>
        simp only [Option.some.injEq, Prod.mk.injEq] at h
        obtain ⟨rfl, rfl, rfl⟩ := h
        exact ev_sound hmix hrec hlive hm hx hf.1 hi fun a' w' hi' => hQ a' w' hi'
      | ret =>
        simp only [Option.some.injEq, Prod.mk.injEq] at h
        obtain ⟨rfl, rfl, rfl⟩ := h
        exact ev_sound hmix hrec hlive hm hx hf.1 hi fun a' w' hi' => hQ a' w' hi'
  | .cond c x y, s, s', R, R', ex, a, w, Q, h, hf, hi, hQ => by
    simp only [fits, Bool.and_eq_true] at hf
    simp only [ev] at h
    split at h
    · rename_i t hc
      have hcv : a.eval c = .bool t := by obtain ⟨ρ, st, hs⟩ := hi; exact hs.eval c _ hc
      refine wp_cond hcv ?_
      cases t with
      | true => exact ev_sound hmix hrec hlive hm (by simpa using h) hf.1 hi hQ
      | false => exact ev_sound hmix hrec hlive hm (by simpa using h) hf.2 hi hQ
    · cases h
  | .block id c, s, s', R, R', ex, a, w, Q, h, hf, hi, hQ => by
    simp only [ev] at h
    refine wp_block ?_
    cases hx : ev E rec m f n c s R with
    | none => rw [hx] at h; cases h
    | some r =>
      obtain ⟨ex1, s1, R1⟩ := r
      rw [hx] at h
      cases ex1 with
      | exit i =>
        simp only at h
        refine ev_sound hmix hrec hlive hm hx hf hi fun a' w' hi' => ?_
        simp only [Ex.exit', Exit.inBlock]
        split at h
        · rename_i e
          simp only [Option.some.injEq, Prod.mk.injEq] at h
          obtain ⟨rfl, rfl, rfl⟩ := h
          rw [if_pos e]; exact hQ a' w' hi'
        · rename_i e
          simp only [Option.some.injEq, Prod.mk.injEq] at h
          obtain ⟨rfl, rfl, rfl⟩ := h
          rw [if_neg e]; exact hQ a' w' hi'
      | norm =>
        simp only [Option.some.injEq, Prod.mk.injEq] at h
        obtain ⟨rfl, rfl, rfl⟩ := h
        exact ev_sound hmix hrec hlive hm hx hf hi fun a' w' hi' => hQ a' w' hi'
      | ret =>
        simp only [Option.some.injEq, Prod.mk.injEq] at h
        obtain ⟨rfl, rfl, rfl⟩ := h
        exact ev_sound hmix hrec hlive hm hx hf hi fun a' w' hi' => hQ a' w' hi'
  | .loop c, s, s', R, R', ex, a, w, Q, h, hf, hi, hQ => by
    simp only [ev] at h
    have one : ∀ {s s1 : Slots} {R R1 : Tab} {e1 : Ex} {a : Act} {w : World} {Q : Exit → Act → World → Prop},
        (match head m (E.keep f (firstRegion c)) s R with
          | some (s, R) => ev E rec m f n c s R
          | none => none) = some (e1, s1, R1) → Inv w0 ρ0 R0 N s R a w → (∀ a' w', Inv w0 ρ0 R0 N s1 R1 a' w' → Q e1.exit' a' w') → c.wp E.P Q a w := by
      intro s s1 R R1 e1 a w Q h1 hi1 hQ1
      split at h1
      · rename_i s2 R2 hh
        rw [hm] at hh
        exact ev_sound hmix hrec hlive hm h1 hf (head_inv hlive hh hi1) hQ1
      · cases h1
    exact loop_sound one h hi hQ
  | .exit id, s, s', R, R', ex, a, w, Q, h, hf, hi, hQ => by
    simp only [ev, Option.some.injEq, Prod.mk.injEq] at h
    obtain ⟨rfl, rfl, rfl⟩ := h
    exact wp_exit (hQ a w hi)
  | .ret, s, s', R, R', ex, a, w, Q, h, hf, hi, hQ => by
    simp only [ev, Option.some.injEq, Prod.mk.injEq] at h
    obtain ⟨rfl, rfl, rfl⟩ := h
    exact wp_ret (hQ a w hi)
where
  loop_sound {N : Nat} {c : Code} {F : Slots → Tab → Option (Ex × Slots × Tab)} (one : ∀ {s s1 : Slots} {R R1 : Tab} {e1 : Ex} {a : Act} {w : World} {Q : Exit → Act → World → Prop}, F s R = some (e1, s1, R1) → Inv w0 ρ0 R0 N s R a w →
        (∀ a' w', Inv w0 ρ0 R0 N s1 R1 a' w' → Q e1.exit' a' w') → c.wp E.P Q a w) {n : Nat} {s s' : Slots} {R R' : Tab} {ex : Ex} {a : Act} {w : World} {Q : Exit → Act → World → Prop}
      (h : iter F n s R = some (ex, s', R')) (hi : Inv w0 ρ0 R0 N s R a w) (hQ : ∀ a' w', Inv w0 ρ0 R0 N s' R' a' w' → Q ex.exit' a' w') : (Code.loop c).wp E.P Q a w := by
    let p : Act → World → Nat → Prop := fun a w k => ∃ s R, iter F k s R = some (ex, s', R') ∧ Inv w0 ρ0 R0 N s R a w
    have hleast : ∀ a w, ∃ k, (∃ k, p a w k) → p a w k ∧ ∀ j, p a w j → k ≤ j := fun a w => least (p a w)
    refine wp_loop (I := fun a w => ∃ k, p a w k) (μ := fun a w => Classical.choose (hleast a w)) ⟨n, s, R, h, hi⟩ fun a w hI => ?_
    obtain ⟨⟨s1, R1, h1, hi1⟩, hmin⟩ := Classical.choose_spec (hleast a w) hI
    generalize Classical.choose (hleast a w) = k at h1 hmin ⊢
    cases k with
    | zero => cases h1
    | succ k =>
      simp only [iter] at h1
      cases hF : F s1 R1 with
      | none => rw [hF] at h1; cases h1
      | some r =>
        obtain ⟨e2, s2, R2⟩ := r
        rw [hF] at h1
        refine one hF hi1 fun a' w' hi' => ?_
        cases e2 with
        | norm =>
          have hp : p a' w' k := ⟨s2, R2, h1, hi'⟩
          exact ⟨⟨k, hp⟩, Nat.lt_succ_of_le ((Classical.choose_spec (hleast a' w') ⟨k, hp⟩).2 k hp)⟩
        | exit id =>
          simp only [Option.some.injEq, Prod.mk.injEq] at h1
          obtain ⟨rfl, rfl, rfl⟩ := h1
          exact hQ a' w' hi'
        | ret =>
          simp only [Option.some.injEq, Prod.mk.injEq] at h1
          obtain ⟨rfl, rfl, rfl⟩ := h1
          exact hQ a' w' hi'
end

end Go.Gm
