import Derived.Test.YtppalpflejcjeaaGreatQGc5
import Derived.Shelf.Small.Bits
import Derived.Shelf.Bits.Mul64
namespace Go.Gm
open Go Go.Proofs Go.RowKit Go.Shelf Go.Lib
set_option linter.unusedVariables false
theorem bitsLen_ok {P : Program} {f : FuncId} (hF : FnFacts P f) {ρr : Ren} (hf : ρr.f 125 = f) (L : Lays.n125 P ρr) :
  FOK P f ⟨[.one (.si .u64)], []⟩ [⟨[.one (.si .i64)], []⟩] (fun x => if 0 ≤ x ∧ x ≤ 18446744073709551615 then some (Lib.bitLen x.toNat : Int) else none) := by
 rintro (x : Int) o h
 simp only at h
 split at h
 ·rename_i hb
  cases h
  refine ⟨hF, fun w ρ vs hm hal hargs => ?_⟩
  have hm : Mem w ρ ([] : Tab) := hm
  have hargs : RVs w ρ ([] : Tab) [.g (.b (.v (.int .u64 x)))] vs := hargs
  obtain ⟨hlen, hargs⟩ := hargs
  match vs, hlen with
  | [y], _ =>
   have hy : y = .int .u64 x := hargs 0 _ y rfl rfl
   subst hy
   have hw := Any.bits_Len L x w hb.1 hb.2
   rw [hf] at hw
   exact Calls.mono hw fun e' w' h => by
    obtain ⟨rfl, rfl⟩ := h
    exact ⟨_, ρ, rfl, Step.refl hm, rfl⟩
 ·cases h
end Go.Gm
