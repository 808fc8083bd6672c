import Derived.Test.YtpkbjabnchfgjaaGreatDoorWGm4
import Derived.ChangeKeysEq
namespace Go.Gm
set_option linter.unusedSimpArgs false
set_option linter.unusedVariables false
theorem Pr.run_bind {α β : Type} : ∀ (p : Pr α) (f : α → Pr β) (R : Tab), (p.bind f).run R = match p.run R with
  | some (a, R') => (f a).run R'
  | none => none
 | .ret a, f, R => rfl
 | .fail, f, R => rfl
 | .get r k, f, R => by
  simp only [Pr.bind, Pr.run]
  split
  ·exact Pr.run_bind _ f R
  ·rfl
 | .put r rt k, f, R => by
  simp only [Pr.bind, Pr.run]
  split
  ·exact Pr.run_bind _ f _
  ·rfl
 | .del r k, f, R => by
  simp only [Pr.bind, Pr.run]
  split
  ·exact Pr.run_bind _ f _
  ·rfl
 | .mk r rt k, f, R => by
  simp only [Pr.bind, Pr.run]
  split
  ·exact Pr.run_bind _ f _
  ·rfl
 | .peek r k, f, R => by
  simp only [Pr.bind, Pr.run]
  split
  ·exact Pr.run_bind _ f R
  ·exact Pr.run_bind _ f R
  ·rfl
theorem Pr.bind_run {α β : Type} {p : Pr α} {f : α → Pr β} {R R2 : Tab} {b : β} (h : (p.bind f).run R = some (b, R2)) : ∃ a R1, p.run R = some (a, R1) ∧ (f a).run R1 = some (b, R2) := by
 rw [Pr.run_bind] at h
 cases hp : p.run R with
 | none => rw [hp] at h; cases h
 | some aR => obtain ⟨a, R1⟩ := aR; rw [hp] at h; exact ⟨a, R1, rfl, h⟩
theorem Pr.get_run {α : Type} {r : Nat} {k : Root → Pr α} {R R2 : Tab} {b : α} (h : (Pr.get r k).run R = some (b, R2)) : ∃ rt, R[r]? = some (.live rt) ∧ (k rt).run R = some (b, R2) := by
 simp only [Pr.run] at h
 split at h
 ·rename_i rt hrt; exact ⟨rt, hrt, h⟩
 ·cases h
theorem Pr.put_run {α : Type} {r : Nat} {rt' : Root} {k : Pr α} {R R2 : Tab} {b : α} (h : (Pr.put r rt' k).run R = some (b, R2)) : ∃ rt, R[r]? = some (.live rt) ∧ k.run (R.set r (.live rt')) = some (b, R2) := by
 simp only [Pr.run] at h
 split at h
 ·rename_i rt hrt; exact ⟨rt, hrt, h⟩
 ·cases h
theorem Pr.del_run {α : Type} {r : Nat} {k : Pr α} {R R2 : Tab} {b : α} (h : (Pr.del r k).run R = some (b, R2)) : ∃ rt, R[r]? = some (.live rt) ∧ k.run (R.set r .dead) = some (b, R2) := by
 simp only [Pr.run] at h
 split at h
 ·rename_i rt hrt; exact ⟨rt, hrt, h⟩
 ·cases h
theorem Pr.mk_run {α : Type} {r : Nat} {rt' : Root} {k : Pr α} {R R2 : Tab} {b : α} (h : (Pr.mk r rt' k).run R = some (b, R2)) : R[r]? = some .fresh ∧ k.run (R.set r (.live rt')) = some (b, R2) := by
 simp only [Pr.run] at h
 split at h
 ·rename_i hrt; exact ⟨hrt, h⟩
 ·cases h
theorem Pr.ret_run {α : Type} {a b : α} {R R2 : Tab} (h : (Pr.ret a).run R = some (b, R2)) : b = a ∧ R2 = R := by
 simp only [Pr.run, qc, qr] at h; exact ⟨h.1.symm, h.2.symm⟩
theorem Pr.ofOpt_run {α : Type} {a : Option α} {b : α} {R R2 : Tab} (h : (Pr.ofOpt a).run R = some (b, R2)) : a = some b ∧ R2 = R := by
 cases a with
 | none => cases h
 | some a => obtain ⟨rfl, rfl⟩ := Pr.ret_run h; exact ⟨rfl, rfl⟩
theorem Pr.fail_run {α : Type} {b : α} {R R2 : Tab} {p : Prop} (h : (Pr.fail : Pr α).run R = some (b, R2)) : p := by cases h
section
variable {w : World} {ρ : Rho} {R : Tab}
theorem zoq {α : Type} (cs : List α) (off n i : Nat) : (win cs off n)[i]? = if i < n then cs[off + i]? else none := by
 unfold win
 rw [List.getElem?_take]
 split
 ·rw [List.getElem?_drop]
 ·rfl
theorem zfj {α : Type} {cs : List α} {off n : Nat} (h : off + n ≤ cs.length) : (win cs off n).length = n := by
 unfold win; simp; omega
theorem zsv : ∀ {l : List B} {vs : List Value}, zkz l = some vs → l.length = vs.length ∧ l = vs.map B.v
 | [], vs, h => by simp only [zkz, qc] at h; subst h; exact ⟨rfl, rfl⟩
 | x :: xs, vs, h => by
  simp only [zkz] at h
  split at h
  ·rename_i v vs' hv hvs
   cases h
   obtain ⟨h1, h2⟩ := zsv hvs
   have hx : x = .v v := by
    cases x <;> simp only [B.conc] at hv <;> first | cases hv; rfl | cases hv
   exact ⟨by simp [h1], by rw [hx, h2]; rfl⟩
  ·cases h
def Cells (w : World) (ρ : Rho) (R : Tab) (ad : Addr) (l : List B) : Prop := ∀ i x, l[i]? = some x → ∃ y, w.cell? (ad.add i) = some y ∧ RB w ρ R x y
theorem za6b {c : C} {y : Value} (h : RC w (fun l => zbw l w ρ R) c y) : RB w ρ R c.toB y := by
 cases c with
 | v x => exact h
 | sl lo n xs =>
  obtain ⟨a, cap, e, hn, hx⟩ := h
  refine ⟨a, cap, e, hn, (fun h => by cases h), ?_⟩
  rcases hx with rfl | ⟨ad, ha, hs, hc⟩
  ·exact .inl rfl
  ·refine .inr ⟨ad, ha, hs, fun i c hi => ?_⟩
   rw [qn] at hi
   obtain ⟨x, hx, rfl⟩ := qf.1 hi
   exact ⟨x, hc i x hx, rfl⟩
theorem ReadC.cells {ad : Addr} {cs : List C} (h : ReadC w (fun l => zbw l w ρ R) ad cs) : Cells w ρ R ad (cs.map C.toB) := by
 intro i x hx
 rw [qn] at hx
 obtain ⟨c, hc, rfl⟩ := qf.1 hx
 obtain ⟨y, hy, hr⟩ := h i c hc
 exact ⟨y, hy, za6b hr⟩
theorem zff (hm : Mem w ρ R) {r : Nat} {rt : Root} (hr : R[r]? = some (.live rt)) {b o : Nat} (hρ : ρ r = some (b, o)) (off n : Nat) : Cells w ρ R ⟨b, o + off, none⟩ (win rt.cells off n) := by
 intro i x hx
 have h1 := (hm.roots r rt hr).1
 rw [hρ] at h1
 obtain ⟨c, T, fr, hb, _, _, hc⟩ := h1
 rw [zoq] at hx
 split at hx
 ·obtain ⟨y, hy, hrb⟩ := hc _ x hx
  exact ⟨y, by rw [zoy]; simp only [World.cell?, hb, Option.isSome_none, qj, if_false]; rw [Nat.add_assoc]; exact hy, hrb⟩
 ·cases hx
theorem zgt (hm : Mem w ρ R) {x : B} {y : Value} {l : List B} {R' : Tab} (h : (content x).run R = some (l, R')) (hx : RB w ρ R x y) :
  R' = R ∧ ∃ a n cap, y = .slice a n cap ∧ n ≤ cap ∧ ((∃ cs ex lo, x = .ro n cs ex lo) ∨ ∃ r g off, x = .rf r g off n) ∧ (l = [] ∨ ∃ ad, a = some ad ∧ Cells w ρ R ad l) := by
 cases x with
 | ro n cs ex lo =>
  obtain ⟨rfl, rfl⟩ := Pr.ret_run h
  obtain ⟨a, cap, e, hn, _, hc⟩ := hx
  refine ⟨rfl, a, n, cap, e, hn, .inl ⟨cs, ex, lo, rfl⟩, hc.imp (fun h => by rw [h]; rfl) fun ⟨ad, ha, _, hr⟩ => ⟨ad, ha, hr.cells⟩⟩
 | rf r g off len =>
  obtain ⟨rt, hrt, h⟩ := Pr.get_run h
  split at h
  ·rename_i hc
   obtain ⟨rfl, rfl⟩ := Pr.ret_run h
   obtain ⟨_, e, he, hf, hl⟩ := hx
   rw [hrt] at he; cases he
   obtain ⟨_, hok⟩ := hl rt rfl
   obtain ⟨a, cap, hv, hlen, hes, hrow, hcl, hcap⟩ := hok hc.1
   refine ⟨rfl, a, len, cap, hv, hlen, .inr ⟨r, g, off, rfl⟩, ?_⟩
   rcases hcap with hcap | ⟨b, o, hgh, ha, hb⟩
   ·have : len = 0 := by omega
    subst this
    left; simp [win]
   ·exact .inr ⟨_, ha, zff hm hrt hgh _ _⟩
  ·exact Pr.fail_run h
 | _ => exact Pr.fail_run h
theorem zwq (hm : Mem w ρ R) {x x' : B} {y : Value} {R' : Tab} (h : (zlp x).run R = some (x', R')) (hx : RB w ρ R x y) : Step w ρ R w ρ R' ∧ RB w ρ R' x' y ∧ x'.closed = true := by
 cases x with
 | v z => obtain ⟨rfl, rfl⟩ := Pr.ret_run h; exact ⟨.refl hm, hx, rfl⟩
 | ro n cs ex lo =>
  obtain ⟨rfl, rfl⟩ := Pr.ret_run h
  obtain ⟨a, cap, e, hn, _, hc⟩ := hx
  exact ⟨.refl hm, ⟨a, cap, e, hn, (fun h => by cases h), hc⟩, rfl⟩
 | rf r g off len =>
  obtain ⟨l, R1, h1, h2⟩ := Pr.bind_run h
  obtain ⟨rfl, a, n, cap, hv, hn, hxn, hl⟩ := zgt hm h1 hx
  obtain rfl : n = len := by
   rcases hxn with ⟨cs, ex, lo, e⟩ | ⟨r', g', off', e⟩
   ·cases e
   ·cases e; rfl
  cases hvs : zkz l with
  | none => rw [hvs] at h2; exact Pr.fail_run h2
  | some vs =>
   rw [hvs] at h2
   obtain ⟨rt, hrt, h2⟩ := Pr.del_run h2
   obtain ⟨rfl, rfl⟩ := Pr.ret_run h2
   have st := Step.del hm hrt
   refine ⟨st, ⟨a, cap, hv, hn, (fun h => by cases h), ?_⟩, rfl⟩
   obtain ⟨hlen, hvl⟩ := zsv hvs
   obtain ⟨_, e, he, hf, hlv⟩ := hx
   rw [hrt] at he; cases he
   simp only [content, Pr.run, hrt] at h1
   split at h1
   ·rename_i hc
    obtain ⟨rfl, _⟩ := Pr.ret_run h1
    obtain ⟨a', cap', hv', hlen', hes, hrow, hcl, hcap⟩ := (hlv rt rfl).2 hc.1
    rw [hv'] at hv; cases hv
    rcases hcap with hcap | ⟨b, o, hgh, ha, hb⟩
    ·left
     have : n = 0 := by omega
     subst this
     simp [win] at hlen
     have : vs = [] := by cases vs with
      | nil => rfl
      | cons _ _ => simp at hlen
     simp [this]
    ·right
     refine ⟨_, ha, ⟨⟨hm.own_lt ⟨r, rt, o, hrt, hgh⟩, ?_⟩, fun _ => hm.apart b ⟨r, rt, o, hrt, hgh⟩⟩, ?_⟩
     ·rintro ⟨r', rt', o', h', hρ'⟩
      by_cases e : r = r'
      ·subst e; rw [za0 hrt] at h'; cases h'
      ·rw [zaj e] at h'; exact e (hm.dist r r' rt rt' b o o' hrt h' hgh hρ')
     ·intro i c hi
      rw [qn] at hi
      obtain ⟨z, hz, rfl⟩ := qf.1 hi
      have hli : (win rt.cells (off * rt.es) (n * rt.es))[i]? = some (.v z) := by
       rw [hvl, qn, hz]; rfl
      obtain ⟨y, hy, hr⟩ := zff hm hrt hgh _ _ i _ hli
      exact ⟨y, hy, hr⟩
   ·exact Pr.fail_run h1
 | _ => exact Pr.fail_run h
theorem RBs.cons {x : B} {y : Value} {xs : List B} {ys : List Value} (h : RB w ρ R x y) (hs : RBs w ρ R xs ys) : RBs w ρ R (x :: xs) (y :: ys) := by
 refine ⟨by simp [hs.1], fun i x' y' hx hy => ?_⟩
 cases i with
 | zero => simp at hx hy; subst hx hy; exact h
 | succ i => simp at hx hy; exact hs.2 i x' y' hx hy
theorem RBs.tail {x : B} {xs : List B} {ys : List Value} (h : RBs w ρ R (x :: xs) ys) : ∃ y ys', ys = y :: ys' ∧ RB w ρ R x y ∧ RBs w ρ R xs ys' := by
 cases ys with
 | nil => have := h.1; simp at this
 | cons y ys' => exact ⟨y, ys', rfl, h.2 0 x y rfl rfl, ⟨by simpa using h.1, fun i x' y' hx hy => h.2 (i + 1) x' y' (by simpa using hx) (by simpa using hy)⟩⟩
theorem RBs.nil : RBs w ρ R [] [] := ⟨rfl, fun i x y h => by simp at h⟩
theorem zmf : ∀ {xs xs' : List B} {ys : List Value} {R R' : Tab}, Mem w ρ R → (zlq xs).run R = some (xs', R') → RBs w ρ R xs ys →
  Step w ρ R w ρ R' ∧ RBs w ρ R' xs' ys ∧ ∀ x ∈ xs', x.closed = true
 | [], xs', ys, R, R', hm, h, hs => by
  obtain ⟨rfl, rfl⟩ := Pr.ret_run h
  exact ⟨.refl hm, hs, fun x hx => by cases hx⟩
 | x :: xs, xs', ys, R, R', hm, h, hs => by
  obtain ⟨y, ys', rfl, hx, hs⟩ := hs.tail
  obtain ⟨x1, R1, h1, h⟩ := Pr.bind_run h
  obtain ⟨xs1, R2, h2, h⟩ := Pr.bind_run h
  obtain ⟨rfl, rfl⟩ := Pr.ret_run h
  obtain ⟨s1, r1, c1⟩ := zwq hm h1 hx
  obtain ⟨s2, r2, c2⟩ := zmf s1.mem h2 (zsb s1.ext hs)
  refine ⟨s1.trans s2, RBs.cons (zif s2.ext r1) r2, fun z hz => ?_⟩
  rcases List.mem_cons.1 hz with rfl | hz
  ·exact c1
  ·exact c2 z hz
theorem zi7 {xs xs' : List B} {ys : List Value} {R R' : Tab} (hm : Mem w ρ R) (h : (zfk xs).run R = some (xs', R')) (hs : RBs w ρ R xs ys) :
  Step w ρ R w ρ R' ∧ RBs w ρ R' xs' ys ∧ ∀ x ∈ xs', x.closed = true := by
 unfold zfk at h
 split at h
 ·rename_i hc
  obtain ⟨rfl, rfl⟩ := Pr.ret_run h
  exact ⟨.refl hm, hs, fun x hx => qt.1 hc x hx⟩
 ·exact zmf hm h hs
theorem Cells.list {ad : Addr} {l : List B} (h : Cells w ρ R ad l) : ∃ ys : List Value, RBs w ρ R l ys ∧ ∀ i y, ys[i]? = some y → w.cell? (ad.add i) = some y := by
 induction l generalizing ad with
 | nil => exact ⟨[], .nil, fun i y h => by simp at h⟩
 | cons x xs ih =>
  obtain ⟨y, hy, hx⟩ := h 0 x rfl
  have htail : Cells w ρ R (ad.add 1) xs := fun i x' hx' => by
   obtain ⟨y', hy', hr'⟩ := h (i + 1) x' (by simpa using hx')
   exact ⟨y', by rw [zsi, Nat.add_comm 1 i]; exact hy', hr'⟩
  obtain ⟨ys, h1, h2⟩ := ih htail
  refine ⟨y :: ys, RBs.cons hx h1, fun i z hz => ?_⟩
  cases i with
  | zero => simp at hz; subst hz; exact hy
  | succ i => simp at hz; have := h2 i z hz; rwa [zsi, Nat.add_comm 1 i] at this
end
end Go.Gm
