import Derived.Test.YtpkbjabnchfgjaaGreatDoorWGm2
import Derived.Laws.Cells
import Derived.Laws.IdiomCopy
namespace Go.Gm
set_option linter.unusedSimpArgs false
set_option linter.unusedVariables false
theorem add_zero (a : Addr) : a.add 0 = a := rfl
theorem zoy (b o i : Nat) : (⟨b, o, none⟩ : Addr).add i = ⟨b, o + i, none⟩ := by unfold Addr.add; split <;> simp_all
theorem zg6 (a : Addr) (i : Nat) : (a.add i).block = a.block := by unfold Addr.add; split <;> rfl
theorem zsi (a : Addr) (i j : Nat) : (a.add i).add j = a.add (i + j) := by
 unfold Addr.add
 by_cases hi : i = 0
 ·subst hi; simp
 ·by_cases hj : j = 0
  ·subst hj; simp [hi]
  ·simp [hi, hj, Nat.add_assoc, show i + j ≠ 0 by omega]
def bsz (w : World) (b : Nat) : Nat :=
 match w.heap[b]? with
 | some (.cells c _ _) => c.size
 | _ => 0
def setB (w : World) (b : Nat) (x : Obj) : World := { w with heap := w.heap.setIfInBounds b x }
def za1s (w : World) (x : Obj) : World := { w with heap := w.heap.push x }
@[simp] theorem zt8 (w : World) (b : Nat) (x : Obj) : (setB w b x).heap.size = w.heap.size := by simp [setB]
theorem zdj {w : World} {b : Nat} {x : Obj} (h : b < w.heap.size) : (setB w b x).heap[b]? = some x := by simp [setB, h]
theorem zjv {w : World} {b b' : Nat} {x : Obj} (h : b ≠ b') : (setB w b x).heap[b']? = w.heap[b']? := by simp [setB, Array.getElem?_setIfInBounds_ne h]
@[simp] theorem zbe1 (w : World) (x : Obj) : (za1s w x).heap.size = w.heap.size + 1 := by simp [za1s]
theorem zfe (w : World) (x : Obj) : (za1s w x).heap[w.heap.size]? = some x := by
 show (w.heap.push x)[w.heap.size]? = some x
 exact Array.getElem?_push_size
theorem zty {w : World} {x : Obj} {b : Nat} (h : b < w.heap.size) : (za1s w x).heap[b]? = w.heap[b]? := by
 show (w.heap.push x)[b]? = w.heap[b]?
 rw [Array.getElem?_push_lt h, Array.getElem?_eq_getElem h]
def ovr (c : Array Value) (o : Nat) : List Value → Array Value
 | [] => c
 | v :: vs => ovr (c.setIfInBounds o v) (o + 1) vs
@[simp] theorem zab9 : ∀ (vs : List Value) (c : Array Value) (o : Nat), (ovr c o vs).size = c.size
 | [], c, o => rfl
 | v :: vs, c, o => by simp [ovr, zab9 vs]
theorem zk5 : ∀ (vs : List Value) (c : Array Value) (o j : Nat), o + vs.length ≤ c.size →
  (ovr c o vs)[j]? = if o ≤ j ∧ j < o + vs.length then vs[j - o]? else c[j]?
 | [], c, o, j, _ => by simp only [ovr, qq, Nat.add_zero]; rw [if_neg (by omega)]
 | v :: vs, c, o, j, h => by
  simp only [qk] at h
  simp only [ovr]
  rw [zk5 vs _ _ _ (by simp; omega)]
  by_cases h1 : o + 1 ≤ j ∧ j < o + 1 + vs.length
  ·rw [if_pos h1, if_pos (by simp only [qk]; omega), show j - o = (j - (o + 1)) + 1 by omega]; rfl
  ·rw [if_neg h1]
   by_cases h2 : j = o
   ·subst h2
    rw [if_pos (by simp only [qk]; omega)]
    simp [Array.getElem?_setIfInBounds, show j < c.size by omega]
   ·rw [if_neg (by simp only [qk]; omega), Array.getElem?_setIfInBounds_ne (Ne.symm h2)]
def unfrz (fr : Nat × Nat) (n : Nat) : Prop := fr = (0, 0)
theorem unfrz.at {fr : Nat × Nat} {n : Nat} (h : unfrz fr n) (i : Nat) : ¬ (fr.1 ≤ i ∧ i < fr.2) := by unfold unfrz at h; subst h; simp
theorem zci {P : Program} {b o : Nat} {T : TypeId} {fr : Nat × Nat} : ∀ (vs : List Value) (i : Nat) (c : Array Value) (w : World), w.heap[b]? = some (.cells c T fr) → unfrz fr c.size →
  o + i + vs.length ≤ c.size → (∀ v ∈ vs, v.oneCell' = true) → (storeCells ⟨b, o, none⟩ vs i).run P w = .ok () (setB w b (.cells (ovr c (o + i) vs) T fr))
 | [], i, c, w, hb, hf, hl, h1 => by
  have : setB w b (.cells (ovr c (o + i) []) T fr) = w := by
   simp only [ovr, setB]
   have : w.heap.setIfInBounds b (.cells c T fr) = w.heap := by
    apply Array.ext_getElem?
    intro j
    by_cases hj : b = j
    ·subst hj; rw [hb]; simp [Array.getElem?_setIfInBounds, (kc.1 hb).1]
    ·rw [Array.getElem?_setIfInBounds_ne hj]
   rw [this]
  rw [this]; rfl
 | v :: vs, i, c, w, hb, hf, hl, h1 => by
  simp only [qk] at hl
  have hlt := (kc.1 hb).1
  have hcell : w.cell? ⟨b, o + i, none⟩ = some c[o + i] := by simp [World.cell?, hb, show o + i < c.size by omega]
  have hfz : w.frozen? ⟨b, o + i, none⟩ = false := by
   simp only [World.frozen?, hb]
   have := hf.at (o + i)
   simp; omega
  have hset : w.setCell ⟨b, o + i, none⟩ v = setB w b (.cells (c.setIfInBounds (o + i) v) T fr) := by
   simp only [World.setCell, setB]
   congr 1
   apply Array.ext_getElem?
   intro j
   by_cases hj : b = j
   ·subst hj
    rw [Array.getElem?_modify, if_pos rfl, hb, Array.getElem?_setIfInBounds_self_of_lt hlt]
    rfl
   ·simp [Array.getElem?_modify, hj, Array.getElem?_setIfInBounds_ne hj]
  have hst : (store ((⟨b, o, none⟩ : Addr).add i) v).run P w = .ok () (setB w b (.cells (c.setIfInBounds (o + i) v) T fr)) := by
   rw [zoy, run_store P w _ v _ (h1 v (by simp))]
   simp [hcell, hfz, hset]
  have ih := zci (P := P) (b := b) (o := o) (T := T) (fr := fr) vs (i + 1) (c.setIfInBounds (o + i) v) (setB w b (.cells (c.setIfInBounds (o + i) v) T fr)) (zdj hlt) hf (by simp; omega) (fun x hx => h1 x (qv _ hx))
  simp only [storeCells, Sem.run_bind, hst, Result.andThen_ok, ih, ovr]
  congr 1
  simp only [setB]
  rw [show o + (i + 1) = o + i + 1 by omega]
  congr 1
  apply Array.ext_getElem?
  intro j
  by_cases hj : b = j
  ·subst hj; simp [Array.getElem?_setIfInBounds]
  ·rw [Array.getElem?_setIfInBounds_ne hj, Array.getElem?_setIfInBounds_ne hj, Array.getElem?_setIfInBounds_ne hj]
abbrev Gh := Option (Nat × Nat)
structure Rho where
 gh : Nat → Gh
 out : Nat → Prop
instance : CoeFun Rho (fun _ => Nat → Gh) := ⟨Rho.gh⟩
def Own (ρ : Rho) (R : Tab) (b : Nat) : Prop := ∃ r rt o, R[r]? = some (.live rt) ∧ ρ r = some (b, o)
def zbw (lo : Bool) (w : World) (ρ : Rho) (R : Tab) (b : Nat) : Prop := (b < w.heap.size ∧ ¬ Own ρ R b) ∧ (lo = true → ¬ ρ.out b)
def zse (w : World) (ρ : Rho) (R : Tab) (b : Nat) : Prop := b < w.heap.size ∧ ¬ Own ρ R b
def RC (w : World) (S : Bool → Nat → Prop) : C → Value → Prop
 | .v x, y => y = x
 | .sl lo n xs, y => ∃ a cap, y = .slice a n cap ∧ n ≤ cap ∧ (xs = [] ∨ ∃ ad, a = some ad ∧ S lo ad.block ∧ ∀ i x, xs[i]? = some x → w.cell? (ad.add i) = some x)
def ReadC (w : World) (S : Bool → Nat → Prop) (ad : Addr) (cs : List C) : Prop := ∀ i c, cs[i]? = some c → ∃ x, w.cell? (ad.add i) = some x ∧ RC w S c x
def RfOK (w : World) (gh : Gh) (rt : Root) (off len : Nat) (y : Value) : Prop :=
 ∃ a cap, y = .slice a len cap ∧ len ≤ cap ∧ 0 < rt.es ∧ rt.row = true ∧ rt.cells.length ≤ (off + cap) * rt.es ∧
  (cap = 0 ∨ ∃ b o, gh = some (b, o) ∧ a = some ⟨b, o + off * rt.es, none⟩ ∧ o + (off + cap) * rt.es ≤ bsz w b)
def RP (w : World) (ρ : Rho) (R : Tab) (p : Nat × Nat × Nat) (y : Value) : Prop :=
 (∃ a, y = .pointer (some a)) ∧ ∃ e, R[p.1]? = some e ∧ e ≠ .fresh ∧ ∀ rt, e = .live rt → p.2.1 ≤ rt.g ∧ (rt.g = p.2.1 → ∃ b o, ρ p.1 = some (b, o) ∧ y = .pointer (some ⟨b, o + p.2.2, none⟩))
def RPs (w : World) (ρ : Rho) (R : Tab) (ps : List (Nat × Nat × Nat)) (ys : List Value) : Prop := ps.length = ys.length ∧ ∀ (i : Nat) p y, ps[i]? = some p → ys[i]? = some y → RP w ρ R p y
def RB (w : World) (ρ : Rho) (R : Tab) : B → Value → Prop
 | .clo f ps, y => ∃ ys, y = .func (.func f) #[] ys ∧ RPs w ρ R ps ys.toList
 | .v x, y => y = x
 | .ro n cs ex lo, y => ∃ a cap, y = .slice a n cap ∧ n ≤ cap ∧ (ex = true → cap = n) ∧ (cs = [] ∨ ∃ ad, a = some ad ∧ zbw lo w ρ R ad.block ∧ ReadC w (fun l => zbw l w ρ R) ad cs)
 | .rf r g off len, y => (∃ a cap, y = .slice a len cap) ∧ ∃ e, R[r]? = some e ∧ e ≠ .fresh ∧ ∀ rt, e = .live rt → g ≤ rt.g ∧ (rt.g = g → RfOK w (ρ r) rt off len y)
 | .pt r g off, y => (∃ a, y = .pointer (some a)) ∧ ∃ e, R[r]? = some e ∧ e ≠ .fresh ∧ ∀ rt, e = .live rt → g ≤ rt.g ∧ (rt.g = g → ∃ b o, ρ r = some (b, o) ∧ y = .pointer (some ⟨b, o + off, none⟩))
 | .pr cs lo, y => ∃ ad, y = .pointer (some ad) ∧ zbw lo w ρ R ad.block ∧ ReadC w (fun l => zbw l w ρ R) ad cs
 | .dead, _ => True
def RBs (w : World) (ρ : Rho) (R : Tab) (xs : List B) (ys : List Value) : Prop := xs.length = ys.length ∧ ∀ (i : Nat) x y, xs[i]? = some x → ys[i]? = some y → RB w ρ R x y
def RG (w : World) (ρ : Rho) (R : Tab) : G → Value → Prop
 | .b x, y => RB w ρ R x y
 | .ag xs, y => ∃ ys, y = .agg ys ∧ RBs w ρ R xs ys.toList
def RGs (w : World) (ρ : Rho) (R : Tab) (xs : List G) (ys : List Value) : Prop := xs.length = ys.length ∧ ∀ (i : Nat) x y, xs[i]? = some x → ys[i]? = some y → RG w ρ R x y
def RV (w : World) (ρ : Rho) (R : Tab) : V → Value → Prop
 | .g x, y => RG w ρ R x y
 | .cl f caps, y => ∃ ys, y = .func (.func f) #[] ys ∧ RGs w ρ R caps ys.toList
 | .tp xs, y => ∃ ys, y = .tuple ys ∧ RGs w ρ R xs ys.toList
def zaoz (w : World) (ρ : Rho) (R : Tab) (r : Nat) (rt : Root) : Prop :=
 (match ρ r with
  | some (b, o) => ∃ c T fr, w.heap[b]? = some (.cells c T fr) ∧ unfrz fr c.size ∧ o + rt.cells.length ≤ c.size ∧
    ∀ i x, rt.cells[i]? = some x → ∃ y, c[o + i]? = some y ∧ RB w ρ R x y
  | none => rt.cells = []) ∧
 (rt.row = true → ∀ x ∈ rt.cells, x.closed = true)
def zly : List Nat := [0]
def globTabs : List (Nat × List Value) := [(3, (List.range 20).map fun (i : Nat) => Value.int .u64 ((10 ^ i : Nat) : Int))]
def zgf : List Nat := zly ++ globTabs.map Prod.fst
def zaal (w : World) : Prop := (∀ g ∈ zly, ∃ m, w.cell? ⟨g, 0, none⟩ = some (.int .i64 m)) ∧ ∀ p ∈ globTabs, ∃ T fr, w.heap[p.1]? = some (.cells p.2.toArray T fr)
structure Mem (w : World) (ρ : Rho) (R : Tab) : Prop where
 roots : ∀ r rt, R[r]? = some (.live rt) → zaoz w ρ R r rt
 dist : ∀ r r' rt rt' b o o', R[r]? = some (.live rt) → R[r']? = some (.live rt') → ρ r = some (b, o) → ρ r' = some (b, o') → r = r'
 apart : ∀ b, Own ρ R b → ¬ ρ.out b
 outlt : ∀ b, ρ.out b → b < w.heap.size
 glob : zaal w ∧ ∀ b ∈ zgf, zse w ρ R b
structure Ext (w : World) (ρ : Rho) (R : Tab) (w' : World) (ρ' : Rho) (R' : Tab) : Prop where
 stab : ∀ b, zse w ρ R b → zse w' ρ' R' b ∧ w'.heap[b]? = w.heap[b]?
 out : ∀ b, ρ'.out b ↔ ρ.out b
 ent : ∀ r e, R[r]? = some e → e ≠ .fresh → ∃ e', R'[r]? = some e' ∧ e' ≠ .fresh ∧ ∀ rt', e' = .live rt' → ∃ rt, e = .live rt ∧ rt.g ≤ rt'.g ∧
  (rt'.g = rt.g → rt'.es = rt.es ∧ rt'.row = rt.row ∧ ρ' r = ρ r ∧ rt'.cells.length ≤ rt.cells.length ∧ ∀ b o, ρ r = some (b, o) → bsz w b ≤ bsz w' b)
theorem Mem.globE {w w' : World} {ρ ρ' : Rho} {R R' : Tab} (hm : Mem w ρ R) (he : Ext w ρ R w' ρ' R') : zaal w' ∧ ∀ b ∈ zgf, zse w' ρ' R' b := by
 obtain ⟨⟨h1, h2⟩, h3⟩ := hm.glob
 have hc : ∀ b ∈ zgf, ∀ i, w'.cell? ⟨b, i, none⟩ = w.cell? ⟨b, i, none⟩ := fun b hb i => by simp only [World.cell?, (he.stab b (h3 b hb)).2]
 refine ⟨⟨fun g hg => ?_, fun p hp => ?_⟩, fun b hb => (he.stab b (h3 b hb)).1⟩
 ·rw [hc g (kg.2 (.inl hg))]; exact h1 g hg
 ·rw [(he.stab p.1 (h3 p.1 (kg.2 (.inr (List.mem_map_of_mem hp))))).2]; exact h2 p hp
theorem zin {w w' : World} {a : Addr} (h : w'.heap[a.block]? = w.heap[a.block]?) : w'.cell? a = w.cell? a := by
 simp only [World.cell?, h]
theorem zbi0 {w w' : World} {S S' : Bool → Nat → Prop} (h : ∀ l b, S l b → S' l b ∧ w'.heap[b]? = w.heap[b]?) : ∀ {c : C} {y : Value}, RC w S c y → RC w' S' c y
 | .v x, y, hy => hy
 | .sl lo n xs, y, ⟨a, cap, e, hn, hx⟩ => ⟨a, cap, e, hn, hx.imp id fun ⟨ad, ha, hs, hc⟩ => ⟨ad, ha, (h _ _ hs).1, fun i x hi =>
   (zin (w := w) (w' := w') (a := ad.add i) (by rw [zg6]; exact (h _ _ hs).2)).trans (hc i x hi)⟩⟩
theorem zgh {w w' : World} {S S' : Bool → Nat → Prop} (h : ∀ l b, S l b → S' l b ∧ w'.heap[b]? = w.heap[b]?) {ad : Addr} (ha : w'.heap[ad.block]? = w.heap[ad.block]?) {cs : List C} (hr : ReadC w S ad cs) : ReadC w' S' ad cs :=
 fun i c hi => let ⟨x, hx, hc⟩ := hr i c hi
  ⟨x, (zin (w := w) (w' := w') (a := ad.add i) (by rw [zg6]; exact ha)).trans hx, zbi0 h hc⟩
theorem Ext.stabL {w w' : World} {ρ ρ' : Rho} {R R' : Tab} (h : Ext w ρ R w' ρ' R') (lo : Bool) : ∀ b, zbw lo w ρ R b → zbw lo w' ρ' R' b ∧ w'.heap[b]? = w.heap[b]? := fun b hb =>
 let ⟨h1, h2⟩ := h.stab b hb.1
 ⟨⟨h1, fun hl ho => hb.2 hl ((h.out b).1 ho)⟩, h2⟩
theorem za4q {w w' : World} {ρ ρ' : Rho} {R R' : Tab} (h : Ext w ρ R w' ρ' R') : ∀ {p : Nat × Nat × Nat} {y : Value}, RP w ρ R p y → RP w' ρ' R' p y
 | (r, g, off), y, ⟨hsh, e, he, hf, hy⟩ => by
  obtain ⟨e', he', hf', hl⟩ := h.ent r e he hf
  refine ⟨hsh, e', he', hf', fun rt' hrt' => ?_⟩
  obtain ⟨rt, hrt, hg, hsame⟩ := hl rt' hrt'
  obtain ⟨hg', hok⟩ := hy rt hrt
  refine ⟨Nat.le_trans hg' hg, fun hgg => ?_⟩
  obtain ⟨b, o, hgh, hv⟩ := hok (by omega)
  obtain ⟨s1, s2, s3, s4, s5⟩ := hsame (by omega)
  exact ⟨b, o, by rw [s3]; exact hgh, hv⟩
theorem zif {w w' : World} {ρ ρ' : Rho} {R R' : Tab} (h : Ext w ρ R w' ρ' R') : ∀ {x : B} {y : Value}, RB w ρ R x y → RB w' ρ' R' x y
 | .v x, y, hy => hy
 | .ro n cs ex lo, y, ⟨a, cap, e, hn, hex, hc⟩ => ⟨a, cap, e, hn, hex, hc.imp id fun ⟨ad, ha, hs, hr⟩ => ⟨ad, ha, (h.stabL lo _ hs).1, zgh (fun l => h.stabL l) (h.stabL lo _ hs).2 hr⟩⟩
 | .rf r g off len, y, ⟨hsh, e, he, hf, hy⟩ => by
  obtain ⟨e', he', hf', hl⟩ := h.ent r e he hf
  refine ⟨hsh, e', he', hf', fun rt' hrt' => ?_⟩
  obtain ⟨rt, hrt, hg, hsame⟩ := hl rt' hrt'
  obtain ⟨hg', hok⟩ := hy rt hrt
  refine ⟨Nat.le_trans hg' hg, fun hgg => ?_⟩
  have e1 : rt.g = g := by omega
  obtain ⟨s1, s2, s3, s4, s5⟩ := hsame (by omega)
  obtain ⟨a, cap, hv, hlen, hes, hrow, hcl, hrest⟩ := hok e1
  refine ⟨a, cap, hv, hlen, by rw [s1]; exact hes, by rw [s2]; exact hrow, by rw [s1]; exact Nat.le_trans s4 hcl, hrest.imp id fun ⟨b, o, hgh, ha, hb⟩ => ⟨b, o, by rw [s3]; exact hgh, by rw [s1]; exact ha, by rw [s1]; exact Nat.le_trans hb (s5 b o hgh)⟩⟩
 | .pt r g off, y, hy => za4q (p := (r, g, off)) h hy
 | .clo f ps, y, ⟨ys, e, hl, hy⟩ => ⟨ys, e, hl, fun i p z hp hz => za4q h (hy i p z hp hz)⟩
 | .pr cs lo, y, ⟨ad, e, hs, hr⟩ => ⟨ad, e, (h.stabL lo _ hs).1, zgh (fun l => h.stabL l) (h.stabL lo _ hs).2 hr⟩
 | .dead, y, _ => trivial
theorem zsb {w w' : World} {ρ ρ' : Rho} {R R' : Tab} (h : Ext w ρ R w' ρ' R') {xs : List B} {ys : List Value} (hr : RBs w ρ R xs ys) : RBs w' ρ' R' xs ys :=
 ⟨hr.1, fun i x y hx hy => zif h (hr.2 i x y hx hy)⟩
theorem zaov {w w' : World} {ρ ρ' : Rho} {R R' : Tab} (h : Ext w ρ R w' ρ' R') : ∀ {x : G} {y : Value}, RG w ρ R x y → RG w' ρ' R' x y
 | .b x, y, hr => zif h (show RB w ρ R x y from hr)
 | .ag xs, y, ⟨ys, e, hr⟩ => ⟨ys, e, zsb h hr⟩
theorem z62 {w w' : World} {ρ ρ' : Rho} {R R' : Tab} (h : Ext w ρ R w' ρ' R') {xs : List G} {ys : List Value} (hr : RGs w ρ R xs ys) : RGs w' ρ' R' xs ys :=
 ⟨hr.1, fun i x y hx hy => zaov h (hr.2 i x y hx hy)⟩
theorem zj2 {w w' : World} {ρ ρ' : Rho} {R R' : Tab} (h : Ext w ρ R w' ρ' R') : ∀ {x : V} {y : Value}, RV w ρ R x y → RV w' ρ' R' x y
 | .g x, y, hr => zaov h (show RG w ρ R x y from hr)
 | .cl f caps, y, ⟨ys, e, hr⟩ => ⟨ys, e, z62 h hr⟩
 | .tp xs, y, ⟨ys, e, hr⟩ => ⟨ys, e, z62 h hr⟩
theorem Ext.refl (w : World) (ρ : Rho) (R : Tab) : Ext w ρ R w ρ R :=
 ⟨fun b h => ⟨h, rfl⟩, fun _ => Iff.rfl, fun r e he hf => ⟨e, he, hf, fun rt' h => ⟨rt', h, qi _, fun _ => ⟨rfl, rfl, rfl, qi _, fun _ _ _ => qi _⟩⟩⟩⟩
theorem Ext.trans {w w1 w2 : World} {ρ ρ1 ρ2 : Rho} {R R1 R2 : Tab} (h : Ext w ρ R w1 ρ1 R1) (h' : Ext w1 ρ1 R1 w2 ρ2 R2) : Ext w ρ R w2 ρ2 R2 := by
 refine ⟨fun b hb => ?_, fun b => (h'.out b).trans (h.out b), fun r e he hf => ?_⟩
 ·obtain ⟨s1, e1⟩ := h.stab b hb
  obtain ⟨s2, e2⟩ := h'.stab b s1
  exact ⟨s2, e2.trans e1⟩
 ·obtain ⟨e1, he1, hf1, hl1⟩ := h.ent r e he hf
  obtain ⟨e2, he2, hf2, hl2⟩ := h'.ent r e1 he1 hf1
  refine ⟨e2, he2, hf2, fun rt2 hrt2 => ?_⟩
  obtain ⟨rt1, hrt1, g1, k1⟩ := hl2 rt2 hrt2
  obtain ⟨rt, hrt, g0, k0⟩ := hl1 rt1 hrt1
  refine ⟨rt, hrt, Nat.le_trans g0 g1, fun hg => ?_⟩
  obtain ⟨a1, a2, a3, a4, a5⟩ := k1 (by omega)
  obtain ⟨b1, b2, b3, b4, b5⟩ := k0 (by omega)
  exact ⟨a1.trans b1, a2.trans b2, a3.trans b3, Nat.le_trans a4 b4, fun b o hb => Nat.le_trans (b5 b o hb) (a5 b o (by rw [b3]; exact hb))⟩
structure Step (w : World) (ρ : Rho) (R : Tab) (w' : World) (ρ' : Rho) (R' : Tab) : Prop where
 ext : Ext w ρ R w' ρ' R'
 mem : Mem w' ρ' R'
 os : w'.os = w.os
 output : w'.output = w.output
 size : w.heap.size ≤ w'.heap.size
 own : ∀ b, Own ρ' R' b → Own ρ R b ∨ w.heap.size ≤ b
theorem Step.refl {w : World} {ρ : Rho} {R : Tab} (h : Mem w ρ R) : Step w ρ R w ρ R := ⟨Ext.refl _ _ _, h, rfl, rfl, qi _, fun _ h => .inl h⟩
theorem Step.trans {w w1 w2 : World} {ρ ρ1 ρ2 : Rho} {R R1 R2 : Tab} (h : Step w ρ R w1 ρ1 R1) (h' : Step w1 ρ1 R1 w2 ρ2 R2) : Step w ρ R w2 ρ2 R2 :=
 ⟨h.ext.trans h'.ext, h'.mem, h'.os.trans h.os, h'.output.trans h.output, Nat.le_trans h.size h'.size, fun b hb => (h'.own b hb).elim (fun h1 => h.own b h1) fun h1 => .inr (Nat.le_trans h.size h1)⟩
theorem Ext.draw (w : World) (ρ : Rho) (R : Tab) (w' : World) (hh : w'.heap = w.heap) : Ext w ρ R w' ρ R := by
 refine ⟨fun b hb => ⟨⟨by rw [hh]; exact hb.1, hb.2⟩, by rw [hh]⟩, fun _ => Iff.rfl, fun r e he hf => ⟨e, he, hf, fun rt' h => ⟨rt', h, qi _, fun _ => ⟨rfl, rfl, rfl, qi _, fun b _ _ => ?_⟩⟩⟩⟩
 simp [bsz, hh]
theorem zba {w w' : World} {ρ ρ' : Rho} {R R' : Tab} (h : Ext w ρ R w' ρ' R') {r : Nat} {rt : Root} (hρ : ρ' r = ρ r) (hb : ∀ b o, ρ r = some (b, o) → w'.heap[b]? = w.heap[b]?) (hr : zaoz w ρ R r rt) : zaoz w' ρ' R' r rt := by
 refine ⟨?_, hr.2⟩
 have h1 := hr.1
 rw [hρ]
 cases hg : ρ r with
 | none => rw [hg] at h1; exact h1
 | some bo =>
  obtain ⟨b, o⟩ := bo
  rw [hg] at h1
  obtain ⟨c, T, fr, a1, a2, a3, a4⟩ := h1
  exact ⟨c, T, fr, by rw [hb b o hg]; exact a1, a2, a3, fun i x hx => let ⟨y, hy, hr⟩ := a4 i x hx; ⟨y, hy, zif h hr⟩⟩
theorem Step.draw {w : World} {ρ : Rho} {R : Tab} (hm : Mem w ρ R) (w' : World) (hh : w'.heap = w.heap) (ho : w'.os = w.os) (hp : w'.output = w.output) : Step w ρ R w' ρ R :=
 ⟨Ext.draw w ρ R w' hh, ⟨fun r rt hr => zba (Ext.draw w ρ R w' hh) rfl (fun _ _ _ => by rw [hh]) (hm.roots r rt hr), hm.dist, hm.apart, by rw [hh]; exact hm.outlt, hm.globE (Ext.draw w ρ R w' hh)⟩, ho, hp, by rw [hh]; exact qi _, fun _ h => .inl h⟩
end Go.Gm
