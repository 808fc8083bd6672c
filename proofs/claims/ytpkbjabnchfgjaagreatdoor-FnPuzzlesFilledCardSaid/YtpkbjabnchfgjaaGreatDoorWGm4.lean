import Derived.Test.YtpkbjabnchfgjaaGreatDoorWGm3
namespace Go.Gm
set_option linter.unusedSimpArgs false
set_option linter.unusedVariables false
def upd (ρ : Rho) (r : Nat) (x : Gh) : Rho := { ρ with gh := fun r' => if r' = r then x else ρ r' }
theorem za1 (ρ : Rho) (r : Nat) (x : Gh) : upd ρ r x r = x := by simp [upd]
theorem zaw {ρ : Rho} {r r' : Nat} {x : Gh} (h : r' ≠ r) : upd ρ r x r' = ρ r' := by simp [upd, h]
section
variable {w : World} {ρ : Rho} {R : Tab}
theorem za0 {r : Nat} {e x : Ent} (h : R[r]? = some e) : (R.set r x)[r]? = some x := by
 simp [List.getElem?_set, (qh.1 h).1]
theorem zaj {r r' : Nat} {x : Ent} (h : r ≠ r') : (R.set r x)[r']? = R[r']? := kh h
theorem Mem.own_lt (hm : Mem w ρ R) {b : Nat} (h : Own ρ R b) : b < w.heap.size := by
 obtain ⟨r, rt, o, hr, hρ⟩ := h
 have h1 := (hm.roots r rt hr).1
 rw [hρ] at h1
 obtain ⟨c, T, fr, hb, _⟩ := h1
 exact (kc.1 hb).1
theorem Step.del (hm : Mem w ρ R) {r : Nat} {rt : Root} (hr : R[r]? = some (.live rt)) : Step w ρ R w ρ (R.set r .dead) := by
 have hown : ∀ b, Own ρ (R.set r .dead) b → Own ρ R b := by
  rintro b ⟨r', rt', o, h', hρ⟩
  by_cases e : r = r'
  ·subst e; rw [za0 hr] at h'; cases h'
  ·rw [zaj e] at h'; exact ⟨r', rt', o, h', hρ⟩
 have hext : Ext w ρ R w ρ (R.set r .dead) := by
  refine ⟨fun b hb => ⟨⟨hb.1, fun h => hb.2 (hown b h)⟩, rfl⟩, fun _ => Iff.rfl, fun r' e he hf => ?_⟩
  by_cases e' : r = r'
  ·subst e'
   exact ⟨.dead, za0 hr, by simp, fun rt' h => by cases h⟩
  ·exact ⟨e, by rw [zaj e']; exact he, hf, fun rt' h => ⟨rt', h, qi _, fun _ => ⟨rfl, rfl, rfl, qi _, fun _ _ _ => qi _⟩⟩⟩
 refine ⟨hext, ⟨fun r' rt' h' => ?_, fun r1 r2 rt1 rt2 b o o' h1 h2 => ?_, fun b h => hm.apart b (hown b h), hm.outlt, hm.globE hext⟩, rfl, rfl, qi _, fun b h => .inl (hown b h)⟩
 ·by_cases e : r = r'
  ·subst e; rw [za0 hr] at h'; cases h'
  ·rw [zaj e] at h'; exact zba hext rfl (fun _ _ _ => rfl) (hm.roots r' rt' h')
 ·by_cases e1 : r = r1
  ·subst e1; rw [za0 hr] at h1; cases h1
  ·by_cases e2 : r = r2
   ·subst e2; rw [za0 hr] at h2; cases h2
   ·rw [zaj e1] at h1; rw [zaj e2] at h2; exact hm.dist r1 r2 rt1 rt2 b o o' h1 h2
theorem Step.make (hm : Mem w ρ R) {r : Nat} {rt : Root} (hr : R[r]? = some .fresh) {c : Array Value} {T : TypeId} {fr : Nat × Nat} (hfr : unfrz fr c.size) (hlen : rt.cells.length ≤ c.size)
  (hcells : ∀ (i : Nat) x, rt.cells[i]? = some x → ∃ y, c[i]? = some y ∧ RB w ρ R x y) (hrow : rt.row = true → ∀ x ∈ rt.cells, x.closed = true) {w' : World} (hw : w'.heap = w.heap.push (.cells c T fr)) (ho : w'.os = w.os) (hp : w'.output = w.output) :
  Step w ρ R w' (upd ρ r (some (w.heap.size, 0))) (R.set r (.live rt)) := by
 have hold : ∀ b, b < w.heap.size → w'.heap[b]? = w.heap[b]? := fun b hb => by rw [hw]; exact zty (x := .cells c T fr) hb
 have hnew : w'.heap[w.heap.size]? = some (.cells c T fr) := by rw [hw]; exact zfe w _
 have hsz : w'.heap.size = w.heap.size + 1 := by rw [hw]; simp
 have hown : ∀ b, Own (upd ρ r (some (w.heap.size, 0))) (R.set r (.live rt)) b → Own ρ R b ∨ b = w.heap.size := by
  rintro b ⟨r', rt', o, h', hρ⟩
  by_cases e : r = r'
  ·subst e; rw [za1] at hρ; cases hρ; exact .inr rfl
  ·rw [zaj e] at h'; rw [zaw (Ne.symm e)] at hρ; exact .inl ⟨r', rt', o, h', hρ⟩
 have hext : Ext w ρ R w' (upd ρ r (some (w.heap.size, 0))) (R.set r (.live rt)) := by
  refine ⟨fun b hb => ⟨⟨by rw [hsz]; exact Nat.lt_succ_of_lt hb.1, fun h => ?_⟩, hold b hb.1⟩, fun _ => Iff.rfl, fun r' e he hf => ?_⟩
  ·rcases hown b h with h | h
   ·exact hb.2 h
   ·have := hb.1; omega
  ·by_cases e' : r = r'
   ·subst e'; rw [hr] at he; cases he; exact absurd rfl hf
   ·refine ⟨e, by rw [zaj e']; exact he, hf, fun rt' h => ⟨rt', h, qi _, fun _ => ⟨rfl, rfl, zaw (Ne.symm e'), qi _, fun b o hb => ?_⟩⟩⟩
    subst h
    have hlt := hm.own_lt ⟨r', rt', o, he, hb⟩
    simp [bsz, hold b hlt]
 refine ⟨hext, ⟨fun r' rt' h' => ?_, fun r1 r2 rt1 rt2 b o o' h1 h2 g1 g2 => ?_, fun b h hob => (hown b h).elim (fun h => hm.apart b h hob) (fun h => absurd (hm.outlt b hob) (by omega)), fun b hob => by have := hm.outlt b hob; omega, hm.globE hext⟩, ho, hp, by omega, fun b h => (hown b h).imp id fun h => by omega⟩
 ·by_cases e : r = r'
  ·subst e
   rw [za0 hr] at h'; cases h'
   refine ⟨?_, hrow⟩
   rw [za1]
   exact ⟨c, T, fr, hnew, hfr, by simpa using hlen, fun i x hx => let ⟨y, hy, hr⟩ := hcells i x hx; ⟨y, by simpa using hy, zif hext hr⟩⟩
  ·rw [zaj e] at h'
   refine zba hext (zaw (Ne.symm e)) (fun b o hb => hold b (hm.own_lt ⟨r', rt', o, h', hb⟩)) (hm.roots r' rt' h')
 ·by_cases e1 : r = r1
  ·subst e1
   by_cases e2 : r = r2
   ·exact e2
   ·rw [zaj e2] at h2; rw [zaw (Ne.symm e2)] at g2
    rw [za1] at g1; cases g1
    exact absurd (hm.own_lt ⟨r2, rt2, o', h2, g2⟩) (Nat.lt_irrefl _)
  ·by_cases e2 : r = r2
   ·subst e2
    rw [zaj e1] at h1; rw [zaw (Ne.symm e1)] at g1
    rw [za1] at g2; cases g2
    exact absurd (hm.own_lt ⟨r1, rt1, o, h1, g1⟩) (Nat.lt_irrefl _)
   ·rw [zaj e1] at h1; rw [zaj e2] at h2
    rw [zaw (Ne.symm e1)] at g1; rw [zaw (Ne.symm e2)] at g2
    exact hm.dist r1 r2 rt1 rt2 b o o' h1 h2 g1 g2
theorem Step.make0 (hm : Mem w ρ R) {r : Nat} {rt : Root} (hr : R[r]? = some .fresh) (hc : rt.cells = []) : Step w ρ R w (upd ρ r none) (R.set r (.live rt)) := by
 have hown : ∀ b, Own (upd ρ r none) (R.set r (.live rt)) b → Own ρ R b := by
  rintro b ⟨r', rt', o, h', hρ⟩
  by_cases e : r = r'
  ·subst e; rw [za1] at hρ; cases hρ
  ·rw [zaj e] at h'; rw [zaw (Ne.symm e)] at hρ; exact ⟨r', rt', o, h', hρ⟩
 have hext : Ext w ρ R w (upd ρ r none) (R.set r (.live rt)) := by
  refine ⟨fun b hb => ⟨⟨hb.1, fun h => hb.2 (hown b h)⟩, rfl⟩, fun _ => Iff.rfl, fun r' e he hf => ?_⟩
  by_cases e' : r = r'
  ·subst e'; rw [hr] at he; cases he; exact absurd rfl hf
  ·exact ⟨e, by rw [zaj e']; exact he, hf, fun rt' h => ⟨rt', h, qi _, fun _ => ⟨rfl, rfl, zaw (Ne.symm e'), qi _, fun b o hb => qi _⟩⟩⟩
 refine ⟨hext, ⟨fun r' rt' h' => ?_, fun r1 r2 rt1 rt2 b o o' h1 h2 g1 g2 => ?_, fun b h => hm.apart b (hown b h), hm.outlt, hm.globE hext⟩, rfl, rfl, qi _, fun b h => .inl (hown b h)⟩
 ·by_cases e : r = r'
  ·subst e
   rw [za0 hr] at h'; cases h'
   refine ⟨?_, fun _ x hx => by rw [hc] at hx; cases hx⟩
   rw [za1]; exact hc
  ·rw [zaj e] at h'
   exact zba hext (zaw (Ne.symm e)) (fun b o hb => rfl) (hm.roots r' rt' h')
 ·by_cases e1 : r = r1
  ·subst e1; rw [za1] at g1; cases g1
  ·by_cases e2 : r = r2
   ·subst e2; rw [za1] at g2; cases g2
   ·rw [zaj e1] at h1; rw [zaj e2] at h2
    rw [zaw (Ne.symm e1)] at g1; rw [zaw (Ne.symm e2)] at g2
    exact hm.dist r1 r2 rt1 rt2 b o o' h1 h2 g1 g2
theorem Step.put0 (hm : Mem w ρ R) {r : Nat} {rt rt' : Root} (hr : R[r]? = some (.live rt)) (hρ : ρ r = none) (hg : rt.g < rt'.g) (hc : rt'.cells = []) : Step w ρ R w ρ (R.set r (.live rt')) := by
 have hown : ∀ b, Own ρ (R.set r (.live rt')) b → Own ρ R b := by
  rintro b ⟨r', rt1, o, h', hρ'⟩
  by_cases e : r = r'
  ·subst e; rw [hρ] at hρ'; cases hρ'
  ·rw [zaj e] at h'; exact ⟨r', rt1, o, h', hρ'⟩
 have hext : Ext w ρ R w ρ (R.set r (.live rt')) := by
  refine ⟨fun b hb => ⟨⟨hb.1, fun h => hb.2 (hown b h)⟩, rfl⟩, fun _ => Iff.rfl, fun r' e he hf => ?_⟩
  by_cases e' : r = r'
  ·subst e'
   rw [hr] at he; cases he
   refine ⟨.live rt', za0 hr, (fun h => by cases h), fun rt1 h1 => ?_⟩
   cases h1
   exact ⟨rt, rfl, Nat.le_of_lt hg, fun hgg => absurd hgg (Nat.ne_of_gt hg)⟩
  ·exact ⟨e, by rw [zaj e']; exact he, hf, fun rt' h => ⟨rt', h, qi _, fun _ => ⟨rfl, rfl, rfl, qi _, fun b o hb => qi _⟩⟩⟩
 refine ⟨hext, ⟨fun r' rt1 h' => ?_, fun r1 r2 rt1 rt2 b o o' h1 h2 g1 g2 => ?_, fun b h => hm.apart b (hown b h), hm.outlt, hm.globE hext⟩, rfl, rfl, qi _, fun b h => .inl (hown b h)⟩
 ·by_cases e : r = r'
  ·subst e
   rw [za0 hr] at h'; cases h'
   refine ⟨?_, fun _ x hx => by rw [hc] at hx; cases hx⟩
   rw [hρ]; exact hc
  ·rw [zaj e] at h'
   exact zba hext rfl (fun b o hb => rfl) (hm.roots r' rt1 h')
 ·by_cases e1 : r = r1
  ·subst e1; rw [hρ] at g1; cases g1
  ·by_cases e2 : r = r2
   ·subst e2; rw [hρ] at g2; cases g2
   ·rw [zaj e1] at h1; rw [zaj e2] at h2
    exact hm.dist r1 r2 rt1 rt2 b o o' h1 h2 g1 g2
theorem zat4 {w : World} {b : Nat} {x : Obj} (h : w.heap[b]? = some x) : setB w b x = w := by
 simp only [setB]
 have : w.heap.setIfInBounds b x = w.heap := by
  apply Array.ext_getElem?
  intro j
  by_cases hj : b = j
  ·subst hj; rw [h]; simp [Array.getElem?_setIfInBounds, (kc.1 h).1]
  ·rw [Array.getElem?_setIfInBounds_ne hj]
 rw [this]
theorem Step.put (hm : Mem w ρ R) {r : Nat} {rt rt' : Root} (hr : R[r]? = some (.live rt)) {b o o' : Nat} (hρ : ρ r = some (b, o)) {c c' : Array Value} {T : TypeId} {fr : Nat × Nat} (hb : w.heap[b]? = some (.cells c T fr)) (hcs : c'.size = c.size)
  (hg : rt.g ≤ rt'.g) (hsame : rt'.g = rt.g → rt'.es = rt.es ∧ rt'.row = rt.row ∧ o' = o ∧ rt'.cells.length ≤ rt.cells.length) (hlen : o' + rt'.cells.length ≤ c.size)
  (hcells : ∀ (i : Nat) x, rt'.cells[i]? = some x → ∃ y, c'[o' + i]? = some y ∧ RB w ρ R x y) (hrow : rt'.row = true → ∀ x ∈ rt'.cells, x.closed = true) :
  Step w ρ R (setB w b (.cells c' T fr)) (upd ρ r (some (b, o'))) (R.set r (.live rt')) := by
 have hblt := (kc.1 hb).1
 have hown : ∀ b', Own (upd ρ r (some (b, o'))) (R.set r (.live rt')) b' → Own ρ R b' := by
  rintro b' ⟨r', rt1, o1, h', hρ'⟩
  by_cases e : r = r'
  ·subst e; rw [za1] at hρ'; cases hρ'; exact ⟨r, rt, o, hr, hρ⟩
  ·rw [zaj e] at h'; rw [zaw (Ne.symm e)] at hρ'; exact ⟨r', rt1, o1, h', hρ'⟩
 have hbs : ∀ b', bsz w b' ≤ bsz (setB w b (.cells c' T fr)) b' := by
  intro b'
  by_cases e : b = b'
  ·subst e; simp [bsz, hb, zdj hblt, hcs]
  ·simp [bsz, zjv e]
 have hext : Ext w ρ R (setB w b (.cells c' T fr)) (upd ρ r (some (b, o'))) (R.set r (.live rt')) := by
  refine ⟨fun b' hb' => ⟨⟨by simpa using hb'.1, fun h => hb'.2 (hown b' h)⟩, zjv fun e => hb'.2 ⟨r, rt, o, hr, e ▸ hρ⟩⟩, fun _ => Iff.rfl, fun r' e he hf => ?_⟩
  by_cases e' : r = r'
  ·subst e'
   rw [hr] at he; cases he
   refine ⟨.live rt', za0 hr, by simp, fun rt1 h1 => ?_⟩
   cases h1
   refine ⟨rt, rfl, hg, fun hgg => ?_⟩
   obtain ⟨a1, a2, a3, a4⟩ := hsame hgg
   exact ⟨a1, a2, by rw [za1, hρ, a3], a4, fun b' o1 _ => hbs b'⟩
  ·exact ⟨e, by rw [zaj e']; exact he, hf, fun rt' h => ⟨rt', h, qi _, fun _ => ⟨rfl, rfl, zaw (Ne.symm e'), qi _, fun b' o1 _ => hbs b'⟩⟩⟩
 refine ⟨hext, ⟨fun r' rt1 h' => ?_, fun r1 r2 rt1 rt2 b' o1 o2 h1 h2 g1 g2 => ?_, fun b' h => hm.apart b' (hown b' h), fun b' h => by rw [zt8]; exact hm.outlt b' h, hm.globE hext⟩, rfl, rfl, by simp, fun b' h => .inl (hown b' h)⟩
 ·by_cases e : r = r'
  ·subst e
   rw [za0 hr] at h'; cases h'
   refine ⟨?_, hrow⟩
   rw [za1]
   have hfr : unfrz fr c.size := by
    have h1 := (hm.roots r rt hr).1
    rw [hρ] at h1
    obtain ⟨c1, T1, fr1, k1, k2, _⟩ := h1
    rw [hb] at k1; cases k1; exact k2
   exact ⟨c', T, fr, zdj hblt, hfr, by rw [hcs]; exact hlen, fun i x hx => let ⟨y, hy, hr⟩ := hcells i x hx; ⟨y, hy, zif hext hr⟩⟩
  ·rw [zaj e] at h'
   refine zba hext (zaw (Ne.symm e)) (fun b' o1 hb' => zjv fun e1 => e (hm.dist r r' rt rt1 b o o1 hr h' hρ (by rw [hb', e1]))) (hm.roots r' rt1 h')
 ·have key : ∀ r1 rt1 o1, (R.set r (.live rt'))[r1]? = some (.live rt1) → upd ρ r (some (b, o')) r1 = some (b', o1) → ∃ rt0 o0, R[r1]? = some (.live rt0) ∧ ρ r1 = some (b', o0) := by
   intro r1 rt1 o1 h1 g1
   by_cases e1 : r = r1
   ·subst e1; rw [za1] at g1; cases g1; exact ⟨rt, o, hr, hρ⟩
   ·rw [zaj e1] at h1; rw [zaw (Ne.symm e1)] at g1; exact ⟨rt1, o1, h1, g1⟩
  obtain ⟨a1, a2, a3, a4⟩ := key r1 rt1 o1 h1 g1
  obtain ⟨b1, b2, b3, b4⟩ := key r2 rt2 o2 h2 g2
  exact hm.dist r1 r2 a1 b1 b' a2 b2 a3 b3 a4 b4
theorem Step.move (hm : Mem w ρ R) {r : Nat} {rt rt' : Root} (hr : R[r]? = some (.live rt)) {c : Array Value} {T : TypeId} {fr : Nat × Nat} (hfr : unfrz fr c.size)
  (hg : rt.g < rt'.g) (hlen : rt'.cells.length ≤ c.size)
  (hcells : ∀ (i : Nat) x, rt'.cells[i]? = some x → ∃ y, c[i]? = some y ∧ RB w ρ R x y) (hrow : rt'.row = true → ∀ x ∈ rt'.cells, x.closed = true) {w' : World} (hw : w'.heap = w.heap.push (.cells c T fr)) (ho : w'.os = w.os) (hp : w'.output = w.output) :
  Step w ρ R w' (upd ρ r (some (w.heap.size, 0))) (R.set r (.live rt')) := by
 have hold : ∀ b, b < w.heap.size → w'.heap[b]? = w.heap[b]? := fun b hb => by rw [hw]; exact zty (x := .cells c T fr) hb
 have hnew : w'.heap[w.heap.size]? = some (.cells c T fr) := by rw [hw]; exact zfe w _
 have hsz : w'.heap.size = w.heap.size + 1 := by rw [hw]; simp
 have hown : ∀ b, Own (upd ρ r (some (w.heap.size, 0))) (R.set r (.live rt')) b → Own ρ R b ∨ b = w.heap.size := by
  rintro b ⟨r', rt1, o, h', hρ⟩
  by_cases e : r = r'
  ·subst e; rw [za1] at hρ; cases hρ; exact .inr rfl
  ·rw [zaj e] at h'; rw [zaw (Ne.symm e)] at hρ; exact .inl ⟨r', rt1, o, h', hρ⟩
 have hext : Ext w ρ R w' (upd ρ r (some (w.heap.size, 0))) (R.set r (.live rt')) := by
  refine ⟨fun b hb => ⟨⟨by rw [hsz]; exact Nat.lt_succ_of_lt hb.1, fun h => ?_⟩, hold b hb.1⟩, fun _ => Iff.rfl, fun r' e he hf => ?_⟩
  ·rcases hown b h with h | h
   ·exact hb.2 h
   ·have := hb.1; omega
  ·by_cases e' : r = r'
   ·subst e'
    rw [hr] at he; cases he
    refine ⟨.live rt', za0 hr, by simp, fun rt1 h1 => ?_⟩
    cases h1
    exact ⟨rt, rfl, Nat.le_of_lt hg, fun hgg => absurd hgg (Nat.ne_of_gt hg)⟩
   ·refine ⟨e, by rw [zaj e']; exact he, hf, fun rt1 h => ⟨rt1, h, qi _, fun _ => ⟨rfl, rfl, zaw (Ne.symm e'), qi _, fun b o hb => ?_⟩⟩⟩
    subst h
    have hlt := hm.own_lt ⟨r', rt1, o, he, hb⟩
    simp [bsz, hold b hlt]
 refine ⟨hext, ⟨fun r' rt1 h' => ?_, fun r1 r2 rt1 rt2 b o o' h1 h2 g1 g2 => ?_, fun b h hob => (hown b h).elim (fun h => hm.apart b h hob) (fun h => absurd (hm.outlt b hob) (by omega)), fun b hob => by have := hm.outlt b hob; omega, hm.globE hext⟩, ho, hp, by omega, fun b h => (hown b h).imp id fun h => by omega⟩
 ·by_cases e : r = r'
  ·subst e
   rw [za0 hr] at h'; cases h'
   refine ⟨?_, hrow⟩
   rw [za1]
   exact ⟨c, T, fr, hnew, hfr, by simpa using hlen, fun i x hx => let ⟨y, hy, hr⟩ := hcells i x hx; ⟨y, by simpa using hy, zif hext hr⟩⟩
  ·rw [zaj e] at h'
   refine zba hext (zaw (Ne.symm e)) (fun b o hb => hold b (hm.own_lt ⟨r', rt1, o, h', hb⟩)) (hm.roots r' rt1 h')
 ·by_cases e1 : r = r1
  ·subst e1
   by_cases e2 : r = r2
   ·exact e2
   ·rw [zaj e2] at h2; rw [zaw (Ne.symm e2)] at g2
    rw [za1] at g1; cases g1
    exact absurd (hm.own_lt ⟨r2, rt2, o', h2, g2⟩) (Nat.lt_irrefl _)
  ·by_cases e2 : r = r2
   ·subst e2
    rw [zaj e1] at h1; rw [zaw (Ne.symm e1)] at g1
    rw [za1] at g2; cases g2
    exact absurd (hm.own_lt ⟨r1, rt1, o, h1, g1⟩) (Nat.lt_irrefl _)
   ·rw [zaj e1] at h1; rw [zaj e2] at h2
    rw [zaw (Ne.symm e1)] at g1; rw [zaw (Ne.symm e2)] at g2
    exact hm.dist r1 r2 rt1 rt2 b o o' h1 h2 g1 g2
theorem Step.old (hm : Mem w ρ R) {w' : World} (hold : ∀ b, b < w.heap.size → w'.heap[b]? = w.heap[b]?) (hsz : w.heap.size ≤ w'.heap.size) (ho : w'.os = w.os) (hp : w'.output = w.output) : Step w ρ R w' ρ R := by
 have hext : Ext w ρ R w' ρ R := by
  refine ⟨fun b h => ⟨⟨Nat.lt_of_lt_of_le h.1 hsz, h.2⟩, hold b h.1⟩, fun _ => Iff.rfl, fun r e he hf => ⟨e, he, hf, fun rt' h => ⟨rt', h, qi _, fun _ => ⟨rfl, rfl, rfl, qi _, fun b o hbo => ?_⟩⟩⟩⟩
  subst h
  simp [bsz, hold b (hm.own_lt ⟨r, rt', o, he, hbo⟩)]
 exact ⟨hext, ⟨fun r rt h => zba hext rfl (fun b o hbo => hold b (hm.own_lt ⟨r, rt, o, h, hbo⟩)) (hm.roots r rt h), hm.dist, hm.apart, fun b h => Nat.lt_of_lt_of_le (hm.outlt b h) hsz, hm.globE hext⟩, ho, hp, hsz, fun b h => .inl h⟩
theorem Step.fresh (hm : Mem w ρ R) (n : Nat) : Step w ρ R w ρ (R ++ List.replicate n Ent.fresh) := by
 have hlive : ∀ (r : Nat) (rt : Root), (R ++ List.replicate n Ent.fresh)[r]? = some (Ent.live rt) → R[r]? = some (Ent.live rt) := by
  intro r rt h
  rcases Nat.lt_or_ge r R.length with hl | hl
  ·rwa [kn hl] at h
  ·rw [kl hl, List.getElem?_replicate] at h
   split at h <;> simp at h
 have hown : ∀ b, Own ρ (R ++ List.replicate n Ent.fresh) b → Own ρ R b := fun b ⟨r, rt, o, h, hρ⟩ => ⟨r, rt, o, hlive r rt h, hρ⟩
 have hext : Ext w ρ R w ρ (R ++ List.replicate n Ent.fresh) :=
  ⟨fun b hb => ⟨⟨hb.1, fun h => hb.2 (hown b h)⟩, rfl⟩, fun _ => Iff.rfl, fun r e he hf => ⟨e, by rw [kn (qh.1 he).1]; exact he, hf,
   fun rt' h => ⟨rt', h, qi _, fun _ => ⟨rfl, rfl, rfl, qi _, fun _ _ _ => qi _⟩⟩⟩⟩
 exact ⟨hext, ⟨fun r rt h => zba hext rfl (fun _ _ _ => rfl) (hm.roots r rt (hlive r rt h)), fun r1 r2 rt1 rt2 b o o' h1 h2 => hm.dist r1 r2 rt1 rt2 b o o' (hlive _ _ h1) (hlive _ _ h2), fun b h => hm.apart b (hown b h), hm.outlt, hm.globE hext⟩, rfl, rfl, qi _, fun b h => .inl (hown b h)⟩
end
end Go.Gm
