import Derived.Test.YtpkbjabnchfgjaaGreatDoorWGc5
import Derived.Shelf.Small.Bits
import Derived.Shelf.Bits.Mul64
namespace Go.Gm
open Go Go.Proofs Go.RowKit Go.Shelf Go.Lib
set_option linter.unusedVariables false
theorem zaed {P : Program} {f : FuncId} (hF : zfw P f) {ρr : Ren} (hf : ρr.f 125 = f) (L : Lays.n125 P ρr) :
  FOK P f ⟨[.one (.si .u64)], []⟩ [⟨[.one (.si .i64)], []⟩] (fun x => if 0 ≤ x ∧ x ≤ 18446744073709551615 then some (Lib.bitLen x.toNat : Int) else none) := by
 rintro (x : Int) o h
 simp only at h
 split at h
 ·rename_i hb
  cases h
  refine ⟨hF, fun w ρ vs hm hal hargs => ?_⟩
  have hm : Mem w ρ ([] : Tab) := hm
  have hargs : RVs w ρ ([] : Tab) [.g (.b (.v (.int .u64 x)))] vs := hargs
  obtain ⟨hlen, hargs⟩ := hargs
  match vs, hlen with
  | [y], _ =>
   have hy : y = .int .u64 x := hargs 0 _ y rfl rfl
   subst hy
   have hw := Any.bits_Len L x w hb.1 hb.2
   rw [hf] at hw
   exact Calls.mono hw fun e' w' h => by
    obtain ⟨rfl, rfl⟩ := h
    exact ⟨_, ρ, rfl, Step.refl hm, rfl⟩
 ·cases h
theorem zaee {P : Program} {f : FuncId} (hF : zfw P f) {ρr : Ren} (hf : ρr.f 212 = f) (L : Lays.n212 P ρr) :
  FOK P f ⟨[.one (.si .u64), .one (.si .u64)], []⟩ [⟨[.one (.si .u64), .one (.si .u64)], []⟩]
   (fun v => if 0 ≤ v.1 ∧ v.1 < 18446744073709551616 ∧ 0 ≤ v.2 ∧ v.2 < 18446744073709551616 then some (((v.1.toNat * v.2.toNat / 18446744073709551616 : Nat) : Int), ((v.1.toNat * v.2.toNat % 18446744073709551616 : Nat) : Int)) else none) := by
 rintro ⟨(x : Int), (y : Int)⟩ o h
 simp only at h
 split at h
 ·rename_i hb
  cases h
  obtain ⟨b1, b2, b3, b4⟩ := hb
  have b1 : 0 ≤ x := b1
  have b2 : x < 18446744073709551616 := b2
  have b3 : 0 ≤ y := b3
  have b4 : y < 18446744073709551616 := b4
  obtain ⟨n, rfl⟩ := Int.eq_ofNat_of_zero_le b1
  obtain ⟨m, rfl⟩ := Int.eq_ofNat_of_zero_le b3
  refine ⟨hF, fun w ρ vs hm hal hargs => ?_⟩
  have hm : Mem w ρ ([] : Tab) := hm
  have hargs : RVs w ρ ([] : Tab) [.g (.b (.v (.int .u64 n))), .g (.b (.v (.int .u64 m)))] vs := hargs
  obtain ⟨hlen, hargs⟩ := hargs
  match vs, hlen with
  | [y, y1], _ =>
   have hy : y = .int .u64 n := hargs 0 _ y rfl rfl
   have hy1 : y1 = .int .u64 m := hargs 1 _ y1 rfl rfl
   subst hy hy1
   have hw := Any.bits_Mul L n m (by omega) (by omega) w
   rw [hf] at hw
   refine Calls.mono hw fun e' w' h => ?_
   obtain ⟨rfl, rfl⟩ := h
   refine ⟨_, ρ, rfl, Step.refl hm, _, rfl, rfl, fun i x y hx hy => ?_⟩
   match i, hx, hy with
   | 0, hx, hy => cases hx; cases hy; rfl
   | 1, hx, hy => cases hx; cases hy; rfl
 ·cases h
end Go.Gm
