import Derived.Test.YtpkbjabnchfgjaaGreatDoorWGc9
import Derived.Shelf.LaysM
namespace Go.Gm
open Go Go.Proofs Go.RowKit Go.Shelf Go.Lib
set_option linter.unusedVariables false
def zatu : List Value := pow10Tab.map fun z => Value.int .u64 z
theorem zz8 {P : Program} {f : FuncId} (hF : zfw P f) {ρr : Ren} (hf : ρr.f 171 = f) (L : LaysM.n171 P ρr) {g : Nat} (hn : P.globalNamed "internal/strconv.uint64pow10" = some g) (hg : (g, zatu) ∈ globTabs) :
  FOK P f ⟨[.one (.si .i64)], []⟩ [⟨[.one .ss], []⟩] (fun x => if -9223372036854775808 ≤ x ∧ x ≤ 9223372036854775807 then some (Lib.itoa x) else none) := by
 rintro (x : Int) o h
 simp only at h
 split at h
 ·rename_i hb
  cases h
  have b1 : -9223372036854775808 ≤ x := hb.1
  have b2 : x ≤ 9223372036854775807 := hb.2
  refine ⟨hF, fun w ρ vs hm hal hargs => ?_⟩
  have hm : Mem w ρ ([] : Tab) := hm
  have hargs : RVs w ρ ([] : Tab) [.g (.b (.v (.int .i64 x)))] vs := hargs
  obtain ⟨hlen, hargs⟩ := hargs
  match vs, hlen with
  | [y], _ =>
   have hy : y = .int .i64 x := hargs 0 _ y rfl rfl
   subst hy
   obtain ⟨T, fr, ht⟩ := hm.glob.1.2 _ hg
   have htab : TabIs P w "internal/strconv.uint64pow10" .u64 pow10Tab := by
    unfold TabIs World.var?
    rw [hn, qa, ht]
    rfl
   have hw := Any.strconv_Itoa L x b1 b2 w htab
   rw [hf] at hw
   exact Calls.mono hw fun e' w' h => by
    obtain ⟨rfl, k, os, rfl⟩ := h
    refine ⟨_, ρ, rfl, Step.old hm (fun b hb => ?_) ?_ rfl rfl, rfl⟩
    ·show (w.heap ++ os)[b]? = _
     rw [Array.getElem?_append_left hb]
    ·show w.heap.size ≤ (w.heap ++ os).size
     rw [Array.size_append]; omega
 ·cases h
end Go.Gm
