import Derived.Test.YtpkbjabnchfgjaaGreatDoorWGm15
import Derived.Tactics
namespace Go.Gm
set_option linter.unusedSimpArgs false
set_option linter.unusedVariables false
set_option linter.unnecessarySimpa false
def fits (N : Nat) : Code → Bool
 | .region _ ops _ => zwg N ops
 | .seq a b => fits N a && fits N b
 | .cond _ a b => fits N a && fits N b
 | .block _ c => fits N c
 | .loop c => fits N c
 | _ => true
def Ex.exit' : Ex → Exit
 | .norm => .normal
 | .exit id => .exit id
 | .ret => .ret
section
variable {w0 : World} {ρ0 : Rho} {R0 : Tab}
def Inv (w0 : World) (ρ0 : Rho) (R0 : Tab) (N : Nat) (s : zej) (R : Tab) (a : Act) (w : World) : Prop := ∃ ρ, Step w0 ρ0 R0 w ρ R ∧ SlotsOK N w ρ R (look s) a
theorem Step.compact {w : World} {ρ : Rho} {R R' : Tab} {vs vs' : List V} (hlive : AllZ R0) (st : Step w0 ρ0 R0 w ρ R) (h : compact R0.length vs R = some (vs', R')) :
  ∃ ρ', Step w0 ρ0 R0 w ρ' R' ∧ ∃ f : V → V, vs' = vs.map f ∧ ∀ x y, RV w ρ R x y → RV w ρ' R' (f x) y := by
 unfold Gm.compact at h
 split at h
 ·rename_i ids R1 hids
  cases h
  obtain ⟨_, hi, hfirst⟩ := zv9 hids
  have ho : ∀ b, ρ.out b → ρ.out b ∨ Own ρ R b := fun b hb => .inl hb
  have hm := zaou (keep := R0.length) (out := ρ.out) st.mem hi ho (fun p hp b o hr => st.mem.apart b ⟨p.1, p.2, o, hi.live p hp, hr⟩)
  refine ⟨zb3 ρ ids ρ.out, ⟨⟨fun b hb => ?_, st.ext.out, fun r e he hf => ?_⟩, hm, st.os, st.output, st.size, fun b hb => st.own b (zjq hi hb)⟩, _, rfl, fun x y hx => zbi3 hi ho hx⟩
  ·obtain ⟨h1, h2⟩ := st.ext.stab b hb
   exact ⟨⟨h1.1, fun hb => h1.2 (zjq hi hb)⟩, h2⟩
  ·have hlt : r < R0.length := (qh.1 he).1
   obtain ⟨rt, hj⟩ := hfirst r hlt
   have hl := hi.get hj
   obtain ⟨e', he', hf', hk⟩ := st.ext.ent r e he hf
   simp only at hl
   rw [hl] at he'; cases he'
   obtain ⟨rt0, hrt0, hg, hsame⟩ := hk rt rfl
   refine ⟨.live (zbn R0.length ids r rt), by rw [zes, hj]; simp, (fun h => by cases h), fun rt' h => ?_⟩
   cases h
   have hgr : (zbn R0.length ids r rt).g = min rt.g 1 := by simp [zbn, hlt]
   have hz : rt0.g = 0 := by obtain ⟨rt1, e1, e2⟩ := hlive r e he; rw [hrt0] at e1; cases e1; exact e2
   have hlen : (zbn R0.length ids r rt).cells.length = rt.cells.length := by
    show (if rt.row then rt.cells else rt.cells.map (renB R0.length ids)).length = _
    split <;> simp
   refine ⟨rt0, hrt0, by rw [hgr]; omega, fun hgg => ?_⟩
   rw [hgr] at hgg
   obtain ⟨s1, s2, s3, s4, s5⟩ := hsame (by omega)
   exact ⟨s1, s2, by simp [zb3, hj]; exact s3, by rw [hlen]; exact s4, s5⟩
 ·cases h
variable {E : Env} {rec : FuncId → List V → Tab → Option (V × Tab)}
theorem zbkl (p : Nat → Prop) : ∃ k, (∃ k, p k) → p k ∧ ∀ j, p j → k ≤ j := by
 have key : ∀ n, (∃ k, k ≤ n ∧ p k) → ∃ k, p k ∧ ∀ j, p j → k ≤ j := by
  intro n
  induction n with
  | zero => rintro ⟨k, hk, hp⟩; exact ⟨k, hp, fun j _ => by omega⟩
  | succ n ih =>
   rintro ⟨k, hk, hp⟩
   by_cases h : ∃ j, j ≤ n ∧ p j
   ·exact ih h
   ·refine ⟨k, hp, fun j hj => ?_⟩
    have : ¬ j ≤ n := fun hjn => h ⟨j, hjn, hj⟩
    omega
 by_cases h : ∃ k, p k
 ·obtain ⟨k, hk⟩ := h
  obtain ⟨l, hl⟩ := key k ⟨k, qi _, hk⟩
  exact ⟨l, fun _ => hl⟩
 ·exact ⟨0, fun h' => absurd h' h⟩
end
end Go.Gm
