import Derived.Test.YtpkbjabnchfgjaaGreatDoorWGc4
import Derived.Shelf.Spec.SlicesGrow
namespace Go.Gm
open Go Go.Proofs Go.RowKit Go.Shelf Go.Lib
set_option linter.unusedVariables false
theorem zbcy {P : Program} {f : FuncId} (hF : zfw P f) {ρr : Ren} (hf : ρr.f 4 = f) (L : Lays8.n4 P ρr) (e : ETy) (i0 : TypeInfo) (z : Value) (hi0 : P.info? (ρr.t 25) = some i0) (hz0 : i0.zero = some z) (hs0 : i0.size = sz e) (hzs : z.cells.size = sz e) (bytes : Nat) (hb0 : i0.bytes = bytes) :
  FOK P f ⟨[.one (.nl true true), .one (.si .i64)], []⟩ [⟨[.one (.rw 0 0)], [.row 0 e]⟩]
   (fun v => if 0 ≤ v.2 ∧ v.2 ≤ 1000000000000 ∧ v.2.toNat * bytes ≤ 140737488355328 then some ((), []) else none) := by
 rintro ⟨⟨⟩, (n' : Int)⟩ o h
 simp only at h
 split at h
 ·rename_i hb
  cases h
  obtain ⟨b1, b2, b3⟩ := hb
  have b1 : 0 ≤ n' := b1
  have b2 : n' ≤ 1000000000000 := b2
  obtain ⟨n, rfl⟩ := Int.eq_ofNat_of_zero_le b1
  have b3 : n * bytes ≤ 140737488355328 := b3
  have hpos : 0 < sz e := zpp e
  refine ⟨hF, fun w ρ vs hm hal hargs => ?_⟩
  have hm : Mem w ρ ([] : Tab) := hm
  have hargs : RVs w ρ ([] : Tab) [.g (.b (.ro 0 [] true true)), .g (.b (.v (.int .i64 n)))] vs := hargs
  obtain ⟨hlen, hargs⟩ := hargs
  match vs, hlen with
  | [y, y1], _ =>
   have hy := hargs 0 _ y rfl rfl
   have hy1 : y1 = .int .i64 n := hargs 1 _ y1 rfl rfl
   subst hy1
   obtain ⟨a, cap, rfl, _, hex, _⟩ := hy
   have hc : cap = 0 := hex rfl
   subst hc
   have post : ∀ (w' : World) (v : Value), Below w.heap.size w w' → w'.ownsRow w.heap.size (ρr.t 25) (sz e) v 0 [] → ∃ x ρ', Ending.returned v = Ending.returned x ∧ Step w ρ [] w' ρ' [.live ⟨0, sz e, true, []⟩] ∧ RV w' ρ' [.live ⟨0, sz e, true, []⟩] (.g (.b (.rf 0 0 0 0))) x := by
    intro w' v hbl ho
    obtain ⟨ρ', h1, h2⟩ := Step.row (cells := []) hm hbl hpos ho rfl (fun i x y hx => by simp at hx) (fun x hx => by simp at hx)
    exact ⟨v, ρ', rfl, h1, h2⟩
   have goal : Calls P f #[.slice a 0 0, .int .i64 n] w fun e' w' => ∃ x ρ', e' = Ending.returned x ∧ Step w ρ [] w' ρ' [.live ⟨0, sz e, true, []⟩] ∧ RV w' ρ' [.live ⟨0, sz e, true, []⟩] (.g (.b (.rf 0 0 0 0))) x := by
    rw [← hf]
    by_cases h0 : n = 0
    ·subst h0
     have hw := Any8.slices_Grow_room L a 0 0 0 w (qi _) (by omega) (by omega) (qi _)
     refine Calls.mono hw fun e' w' h => ?_
     obtain ⟨rfl, rfl⟩ := h
     have s0 : Step _ ρ [] _ ρ [Ent.fresh] := Step.fresh hm 1
     have s1 := Step.make0 (r := 0) (rt := ⟨0, sz e, true, []⟩) s0.mem rfl rfl
     refine ⟨_, _, rfl, s0.trans s1, ⟨a, 0, rfl⟩, .live ⟨0, sz e, true, []⟩, rfl, (fun h => by cases h), fun rt hrt => ?_⟩
     cases hrt
     exact ⟨qi _, fun _ => ⟨a, 0, rfl, qi _, hpos, rfl, Nat.zero_le _, .inl rfl⟩⟩
    ·have hw := Any8.slices_Grow_grow L i0 z hi0 hz0 (by rw [hs0]; exact hpos) a 0 0 n [] w (qi _) (by omega) (by rw [Nat.zero_add, hb0]; exact b3) (by omega) (by simp) (fun _ => rfl) (fun _ _ j v hj => by simp at hj)
     refine Calls.mono hw fun e' w' h => ?_
     obtain ⟨rfl, rfl⟩ := h
     have hgc : n ≤ grownCap w (0 + n) 0 (ρr.t 25) := by have := grownCap_ge w (0 + n) 0 (ρr.t 25); omega
     have hgl := grownCap_le_maxLen w (0 + n) 0 (ρr.t 25) (by unfold maxLen; omega)
     generalize grownCap w (0 + n) 0 (ρr.t 25) = G at hgc hgl
     refine post _ _ ((Below.refl _ w).drew.alloc (qi _) _) ⟨by simp, .inr ⟨w.heap.size, G, _, rfl, qi _, zfe w.drew _, Nat.zero_le _, hgl, ?_, by simp⟩⟩
     simp only [Builtin.zeroCells, Array.size_append, Array.size_map, Array.size_range, hzs, List.size_toArray, qq, Nat.zero_add, Nat.sub_zero]
     rw [← Nat.add_mul]; congr 1; omega
   exact goal
 ·cases h
end Go.Gm
