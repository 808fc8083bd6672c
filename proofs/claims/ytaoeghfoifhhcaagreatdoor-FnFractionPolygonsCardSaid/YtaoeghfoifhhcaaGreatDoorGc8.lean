/- strings.Trim at a cutset of ASCII bytes, as the interpreter tells it. -/
import Derived.Test.YtaoeghfoifhhcaaGreatDoorGc7
import Derived.Shelf.Strings.SlTrimAscii
namespace Go.Gm
open Go Go.Proofs Go.RowKit Go.Shelf Go.Lib
set_option linter.unusedVariables false
theorem Step.below {w w' : World} {ρ : Rho} {R : Tab} (hm : Mem w ρ R) (hb : Below w.heap.size w w') : Step w ρ R w' ρ R :=
  Step.old hm (fun b h => hb.block b h) hb.size hb.os hb.output
theorem strTrim_ok {P : Program} {f : FuncId} (hF : FnFacts P f) {ρr : Ren} (hf : ρr.f 160 = f) (L : Lays.n160 P ρr) (h116 : (P.info? (ρr.t 116)).map (fun i => (i.zero, i.size)) = some (some (.agg (Array.replicate 256 (.bool false))), 256)) :
    FOK P f ⟨[.one .ss, .one .ss], []⟩ [⟨[.one .ss], []⟩]
      (fun v => if v.1.length ≤ 9223372036854775807 ∧ v.2.length < 4294967281 ∧ v.2.all (fun b => decide (b.toNat < 128)) = true then some (Lib.trimS v.1 v.2) else none) := by
  rintro ⟨(x : List UInt8), (c : List UInt8)⟩ o h
  simp only at h
  split at h
  · rename_i hb
    cases h
    obtain ⟨b1, b2, b3⟩ := hb
    have b1 : x.length ≤ 9223372036854775807 := b1
    have b2 : c.length < 4294967281 := b2
    refine ⟨hF, fun w ρ vs hm hal hargs => ?_⟩
    have hm : Mem w ρ ([] : Tab) := hm
    have hargs : RVs w ρ ([] : Tab) [.g (.b (.v (.string ⟨x.toArray⟩))), .g (.b (.v (.string ⟨c.toArray⟩)))] vs := hargs
    obtain ⟨hlen, hargs⟩ := hargs
    match vs, hlen with
    | [y, y1], _ =>
      have hy : y = .string ⟨x.toArray⟩ := hargs 0 _ y rfl rfl
      have hy1 : y1 = .string ⟨c.toArray⟩ := hargs 1 _ y1 rfl rfl
      subst hy hy1
      have hw := Any.strings_Trim_laid L h116 ⟨x.toArray⟩ ⟨c.toArray⟩ w (by show x.toArray.size ≤ _; simpa using b1) (by show c.toArray.size < _; simpa using b2) (ascii_of_all b3)
      rw [hf] at hw
      refine Calls.mono hw fun e' w' h => ?_
      obtain ⟨rfl, hbl⟩ := h
      exact ⟨_, ρ, rfl, Step.below hm hbl, rfl⟩
  · cases h
end Go.Gm
