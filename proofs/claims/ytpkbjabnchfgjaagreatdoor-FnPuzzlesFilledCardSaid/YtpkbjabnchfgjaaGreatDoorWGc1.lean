import Derived.Test.YtpkbjabnchfgjaaGreatDoorWGr2
import Derived.Laws.AppendOwn
namespace Go.Gm
open Go Go.Proofs Go.RowKit
set_option linter.unusedVariables false
variable {w w' : World} {ρ : Rho} {R : Tab}
theorem Step.makeAt (hm : Mem w ρ R) {r : Nat} {rt : Root} (hr : R[r]? = some .fresh) {B : Nat} {c : Array Value} {T : TypeId} {fr : Nat × Nat} (hB : w.heap.size ≤ B) (hnew : w'.heap[B]? = some (.cells c T fr)) (hfr : unfrz fr c.size) (hlen : rt.cells.length ≤ c.size)
  (hcells : ∀ (i : Nat) x, rt.cells[i]? = some x → ∃ y, c[i]? = some y ∧ RB w ρ R x y) (hrow : rt.row = true → ∀ x ∈ rt.cells, x.closed = true) (hold : ∀ b, b < w.heap.size → w'.heap[b]? = w.heap[b]?) (hsz : w.heap.size ≤ w'.heap.size) (ho : w'.os = w.os) (hp : w'.output = w.output) :
  Step w ρ R w' (upd ρ r (some (B, 0))) (R.set r (.live rt)) := by
 have hown : ∀ b, Own (upd ρ r (some (B, 0))) (R.set r (.live rt)) b → Own ρ R b ∨ b = B := by
  rintro b ⟨r', rt', o, h', hρ⟩
  by_cases e : r = r'
  ·subst e; rw [za1] at hρ; cases hρ; exact .inr rfl
  ·rw [zaj e] at h'; rw [zaw (Ne.symm e)] at hρ; exact .inl ⟨r', rt', o, h', hρ⟩
 have hext : Ext w ρ R w' (upd ρ r (some (B, 0))) (R.set r (.live rt)) := by
  refine ⟨fun b hb => ⟨⟨Nat.lt_of_lt_of_le hb.1 hsz, fun h => ?_⟩, hold b hb.1⟩, fun _ => Iff.rfl, fun r' e he hf => ?_⟩
  ·rcases hown b h with h | h
   ·exact hb.2 h
   ·have := hb.1; omega
  ·by_cases e' : r = r'
   ·subst e'; rw [hr] at he; cases he; exact absurd rfl hf
   ·refine ⟨e, by rw [zaj e']; exact he, hf, fun rt' h => ⟨rt', h, qi _, fun _ => ⟨rfl, rfl, zaw (Ne.symm e'), qi _, fun b o hb => ?_⟩⟩⟩
    subst h
    have hlt := hm.own_lt ⟨r', rt', o, he, hb⟩
    simp [bsz, hold b hlt]
 refine ⟨hext, ⟨fun r' rt' h' => ?_, fun r1 r2 rt1 rt2 b o o' h1 h2 g1 g2 => ?_, fun b h hob => (hown b h).elim (fun h => hm.apart b h hob) (fun h => absurd (hm.outlt b hob) (by omega)), fun b hob => by have := hm.outlt b hob; omega, hm.globE hext⟩, ho, hp, hsz, fun b h => (hown b h).imp id fun h => by omega⟩
 ·by_cases e : r = r'
  ·subst e
   rw [za0 hr] at h'; cases h'
   refine ⟨?_, hrow⟩
   rw [za1]
   exact ⟨c, T, fr, hnew, hfr, by simpa using hlen, fun i x hx => let ⟨y, hy, hr⟩ := hcells i x hx; ⟨y, by simpa using hy, zif hext hr⟩⟩
  ·rw [zaj e] at h'
   refine zba hext (zaw (Ne.symm e)) (fun b o hb => hold b (hm.own_lt ⟨r', rt', o, h', hb⟩)) (hm.roots r' rt' h')
 ·by_cases e1 : r = r1
  ·subst e1
   by_cases e2 : r = r2
   ·exact e2
   ·rw [zaj e2] at h2; rw [zaw (Ne.symm e2)] at g2
    rw [za1] at g1; cases g1
    have := hm.own_lt ⟨r2, rt2, o', h2, g2⟩
    omega
  ·by_cases e2 : r = r2
   ·subst e2
    rw [zaj e1] at h1; rw [zaw (Ne.symm e1)] at g1
    rw [za1] at g2; cases g2
    have := hm.own_lt ⟨r1, rt1, o, h1, g1⟩
    omega
   ·rw [zaj e1] at h1; rw [zaj e2] at h2
    rw [zaw (Ne.symm e1)] at g1; rw [zaw (Ne.symm e2)] at g2
    exact hm.dist r1 r2 rt1 rt2 b o o' h1 h2 g1 g2
theorem Step.row (hm : Mem w ρ R) (hb : Below w.heap.size w w') {T : TypeId} {size n : Nat} {v : Value} {news : List Value} (hs : 0 < size) (ho : w'.ownsRow w.heap.size T size v n news) {cells : List B} (hl : cells.length = news.length)
  (hrel : ∀ (i : Nat) x y, cells[i]? = some x → news[i]? = some y → RB w ρ R x y) (hcl : ∀ x ∈ cells, x.closed = true) :
  ∃ ρ', Step w ρ R w' ρ' (R ++ [.live ⟨0, size, true, cells⟩]) ∧ RB w' ρ' (R ++ [.live ⟨0, size, true, cells⟩]) (.rf R.length 0 0 n) v := by
 have e0 : (R ++ [Ent.fresh])[R.length]? = some .fresh := by simp
 have e1 : (R ++ [Ent.fresh]).set R.length (.live ⟨0, size, true, cells⟩) = R ++ [.live ⟨0, size, true, cells⟩] := by simp
 have s0 := Step.fresh hm 1
 have hrep : List.replicate 1 Ent.fresh = [Ent.fresh] := rfl
 rw [hrep] at s0
 obtain ⟨h1, h2⟩ := ho
 rcases h2 with ⟨rfl, rfl⟩ | ⟨g, cap, cur, rfl, hg, hcur, hn, hcap, hsize, htake⟩
 ·have hc0 : cells = [] := by rw [Nat.zero_mul] at h1; exact ks (by omega)
  subst hc0
  have s1 := Step.make0 (rt := ⟨0, size, true, []⟩) s0.mem e0 rfl
  rw [e1] at s1
  have s2 : Step w (upd ρ R.length none) (R ++ [.live ⟨0, size, true, []⟩]) w' (upd ρ R.length none) (R ++ [.live ⟨0, size, true, []⟩]) := by
   have hmm := s1.mem
   have hold : ∀ b, b < w.heap.size → w'.heap[b]? = w.heap[b]? := fun b h => hb.block b h
   have hext : Ext w (upd ρ R.length none) (R ++ [.live ⟨0, size, true, []⟩]) w' (upd ρ R.length none) (R ++ [.live ⟨0, size, true, []⟩]) := by
    refine ⟨fun b h => ⟨⟨Nat.lt_of_lt_of_le h.1 hb.size, h.2⟩, hold b h.1⟩, fun _ => Iff.rfl, fun r e he hf => ⟨e, he, hf, fun rt' h => ⟨rt', h, qi _, fun _ => ⟨rfl, rfl, rfl, qi _, fun b o hbo => ?_⟩⟩⟩⟩
    subst h
    have hlt := hmm.own_lt ⟨r, rt', o, he, hbo⟩
    simp [bsz, hold b hlt]
   exact ⟨hext, ⟨fun r rt h => zba hext rfl (fun b o hbo => hold b (hmm.own_lt ⟨r, rt, o, h, hbo⟩)) (hmm.roots r rt h), hmm.dist, hmm.apart, fun b h => Nat.lt_of_lt_of_le (hmm.outlt b h) hb.size, hmm.globE hext⟩, hb.os, hb.output, hb.size, fun b h => .inl h⟩
  refine ⟨_, s0.trans (s1.trans s2), ⟨none, 0, rfl⟩, .live ⟨0, size, true, []⟩, by simp, (fun h => by cases h), fun rt h => ?_⟩
  cases h
  exact ⟨qi _, fun _ => ⟨none, 0, rfl, qi _, hs, rfl, by simp, .inl rfl⟩⟩
 ·have hlen : cells.length ≤ cur.size := by rw [hl, h1, hsize]; exact ki _ hn
  have s1 := Step.makeAt (w' := w') (rt := ⟨0, size, true, cells⟩) s0.mem e0 hg hcur rfl hlen (by
   intro i x hx
   have hi : i < cells.length := (qh.1 hx).1
   have hi2 : i < news.length := by omega
   obtain ⟨y, hy⟩ : ∃ y, news[i]? = some y := ⟨news[i], qb hi2⟩
   have h3 := hrel i x y hx hy
   refine ⟨y, ?_, zif s0.ext h3⟩
   rw [← htake] at hy
   rw [List.getElem?_take] at hy
   split at hy
   ·rwa [Array.getElem?_toList] at hy
   ·cases hy) (fun _ => hcl) (fun b h => hb.block b h) hb.size hb.os hb.output
  rw [e1] at s1
  refine ⟨_, s0.trans s1, ⟨_, _, rfl⟩, .live ⟨0, size, true, cells⟩, by simp, (fun h => by cases h), fun rt h => ?_⟩
  cases h
  refine ⟨qi _, fun _ => ⟨_, cap, rfl, hn, hs, rfl, ?_, .inr ⟨g, 0, za1 _ _ _, by simp, ?_⟩⟩⟩
  ·simp only [Nat.zero_add]; exact Nat.le_trans hlen (by rw [hsize]; exact qi _)
  ·simp [bsz, hcur, hsize]
end Go.Gm
