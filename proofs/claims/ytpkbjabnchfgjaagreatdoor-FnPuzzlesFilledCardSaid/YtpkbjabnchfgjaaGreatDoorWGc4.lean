import Derived.Test.YtpkbjabnchfgjaaGreatDoorWGc3
import Derived.Shelf.Spec.SlicesInsertGrow
namespace Go.Gm
open Go Go.Proofs Go.RowKit Go.Shelf Go.Lib
set_option linter.unusedVariables false
variable {P : Program} {ρ : Ren}
set_option maxHeartbeats 4000000 in
set_option maxRecDepth 1000000 in
set_option maxHeartbeats 4000000 in
set_option maxRecDepth 1000000 in
theorem Step.drew {w : World} {ρ : Rho} {R : Tab} (hm : Mem w ρ R) : Step w ρ R w.drew ρ R := Step.draw hm w.drew rfl rfl rfl
theorem zax8 {w : World} {b : Nat} {c : Array Value} {T : TypeId} {fr : Nat × Nat} (h : w.heap[b]? = some (.cells c T fr)) (k : Nat) : w.cell? ⟨b, k, none⟩ = c[k]? := by
 show (match w.heap[b]? with | some (.cells c _ _) => if (none : Option Nat).isSome then none else c[k]? | _ => none) = _
 rw [h]; rfl
theorem zbcs {w : World} {b : Nat} {c : Array Value} {T : TypeId} {fr : Nat × Nat} (h : w.heap[b]? = some (.cells c T fr)) (hf : unfrz fr c.size) (k : Nat) : w.frozen? ⟨b, k, none⟩ = false := by
 show (match w.heap[b]? with | some (.cells _ _ (lo, hi)) => lo ≤ k && k < hi | _ => false) = false
 unfold unfrz at hf
 subst hf
 rw [h]
 simp
end Go.Gm
