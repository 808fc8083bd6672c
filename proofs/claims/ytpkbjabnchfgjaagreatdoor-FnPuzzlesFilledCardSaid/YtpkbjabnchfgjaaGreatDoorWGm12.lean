import Derived.Test.YtpkbjabnchfgjaaGreatDoorWGm11
namespace Go.Gm
set_option linter.unusedSimpArgs false
set_option linter.unusedVariables false
set_option linter.unnecessarySimpa false
theorem zgn : ∀ {ids : Ids} {r k j : Nat} {rt : Root}, zcf ids r k = some (j, rt) → k ≤ j ∧ ids[j - k]? = some (r, rt)
 | [], r, k, j, rt, h => by simp [zcf] at h
 | (r', rt') :: ids, r, k, j, rt, h => by
  simp only [zcf] at h
  split at h
  ·rename_i e; cases h; exact ⟨qi _, by simp [e]⟩
  ·obtain ⟨h1, h2⟩ := zgn h
   exact ⟨by omega, by rw [show j - k = (j - (k + 1)) + 1 by omega]; simpa using h2⟩
theorem zes : ∀ {keep : Nat} {ids all : Ids} {k j : Nat}, (zcg keep all k ids)[j]? = (ids[j]?).map fun p => Ent.live (zbn keep all (k + j) p.2)
 | keep, [], all, k, j => by simp [zcg]
 | keep, (r, rt) :: ids, all, k, 0 => by simp [zcg]
 | keep, (r, rt) :: ids, all, k, j + 1 => by
  simp only [zcg, List.getElem?_cons_succ]
  rw [zes (ids := ids)]
  congr 1
  funext p
  rw [show k + 1 + j = k + (j + 1) by omega]
def zb3 (ρ : Rho) (ids : Ids) (out : Nat → Prop) : Rho := ⟨fun j => match ids[j]? with
 | some (r, _) => ρ r
 | none => none, out⟩
structure IdsOK (R : Tab) (ids : Ids) : Prop where
 nodup : (ids.map (·.1)).Nodup
 live : ∀ p ∈ ids, R[p.1]? = some (.live p.2)
theorem z69 {keep : Nat} {ids : Ids} {x : B} (h : x.closed = true) : renB keep ids x = x := by
 cases x <;> first | rfl | simp [B.closed] at h
section
variable {w : World} {ρ : Rho} {R : Tab} {ids : Ids} {keep : Nat} {out : Nat → Prop}
theorem IdsOK.get (hi : IdsOK R ids) {j : Nat} {p : Nat × Root} (h : ids[j]? = some p) : R[p.1]? = some (.live p.2) := hi.live p (qp h)
theorem IdsOK.inj (hi : IdsOK R ids) {j k : Nat} {p q : Nat × Root} (hj : ids[j]? = some p) (hk : ids[k]? = some q) (h : p.1 = q.1) : j = k := by
 have h1 : (ids.map (·.1))[j]? = some p.1 := by rw [qn, hj]; rfl
 have h2 : (ids.map (·.1))[k]? = some p.1 := by rw [qn, hk, h]; rfl
 obtain ⟨l1, e1⟩ := qh.1 h1
 obtain ⟨l2, e2⟩ := qh.1 h2
 have hp := List.pairwise_iff_getElem.1 hi.nodup
 rcases Nat.lt_trichotomy j k with h' | h' | h'
 ·exact absurd (e1.trans e2.symm) (hp j k l1 l2 h')
 ·exact h'
 ·exact absurd (e2.trans e1.symm) (hp k j l2 l1 h')
theorem zzr (hi : IdsOK R ids) {b : Nat} (h : Own (zb3 ρ ids out) (zcg keep ids 0 ids) b) : ∃ p ∈ ids, ∃ o, ρ p.1 = some (b, o) := by
 obtain ⟨j, rt, o, hj, hρ⟩ := h
 rw [zes] at hj
 obtain ⟨p, hp, _⟩ := qf.1 hj
 simp only [zb3, hp] at hρ
 exact ⟨p, qp hp, o, hρ⟩
theorem zjq (hi : IdsOK R ids) {b : Nat} (h : Own (zb3 ρ ids out) (zcg keep ids 0 ids) b) : Own ρ R b := by
 obtain ⟨p, hp, o, hρ⟩ := zzr hi h
 exact ⟨p.1, p.2, o, hi.live p hp, hρ⟩
theorem zgg (hi : IdsOK R ids) (ho : ∀ b, out b → ρ.out b ∨ Own ρ R b) {lo : Bool} {b : Nat} (h : zbw lo w ρ R b) : zbw lo w (zb3 ρ ids out) (zcg keep ids 0 ids) b :=
 ⟨⟨h.1.1, fun hb => h.1.2 (zjq hi hb)⟩, fun hl hb => (ho b hb).elim (h.2 hl) h.1.2⟩
theorem zax3 {rt : Root} {gh : Gh} {off len j : Nat} {y : Value} (h : RfOK w gh rt off len y) : RfOK w gh (zbn keep ids j rt) off len y := by
 obtain ⟨a, cap, h1, h2, h3, h4, h5, h6⟩ := h
 refine ⟨a, cap, h1, h2, h3, h4, ?_, h6⟩
 show (if rt.row then rt.cells else rt.cells.map (renB keep ids)).length ≤ _
 show _ ≤ (off + cap) * rt.es
 split <;> first
  | exact h5
  | (rw [km]; exact h5)
theorem zbi2 (hi : IdsOK R ids) {p q : Nat × Nat × Nat} {y : Value} (hq : renP keep ids p = some q) (h : RP w ρ R p y) : RP w (zb3 ρ ids out) (zcg keep ids 0 ids) q y := by
 obtain ⟨r, g, off⟩ := p
 obtain ⟨hsh, e, he, hf, hl⟩ := h
 simp only [renP] at hq
 cases hfi : zcf ids r 0 with
 | none => rw [hfi] at hq; cases hq
 | some p =>
  obtain ⟨j, rt⟩ := p
  rw [hfi] at hq
  simp only at hq
  split at hq
  ·rename_i hg
   cases hq
   obtain ⟨_, hj⟩ := zgn hfi
   simp only [Nat.sub_zero] at hj
   have hlive := hi.get hj
   simp only [] at hlive he
   rw [he] at hlive; cases hlive
   have hok := (hl rt rfl).2 hg
   refine ⟨hsh, .live (zbn keep ids j rt), by rw [zes, hj]; simp, (fun h => by cases h), fun rt' h => ?_⟩
   cases h
   refine ⟨?_, fun _ => ?_⟩
   ·show (if j < keep then min g 1 else 0) ≤ (if j < keep then min rt.g 1 else 0)
    split <;> omega
   ·have : zb3 ρ ids out j = ρ r := by simp [zb3, hj]
    show ∃ b o, zb3 ρ ids out j = some (b, o) ∧ _
    rw [this]; exact hok
  ·cases hq
theorem zob {α β : Type} {f : α → Option β} : ∀ {l : List α} {l' : List β}, zi1 f l = some l' → l'.length = l.length ∧ ∀ (i : Nat) y, l'[i]? = some y → ∃ x, l[i]? = some x ∧ f x = some y
 | [], l', h => by simp only [zi1, qc] at h; subst h; exact ⟨rfl, fun i y hy => by simp at hy⟩
 | x :: l, l', h => by
  simp only [zi1] at h
  split at h
  ·rename_i y ys hy hys
   cases h
   obtain ⟨h1, h2⟩ := zob hys
   refine ⟨by simp [h1], fun i z hz => ?_⟩
   cases i with
   | zero => simp only [kk, qc] at hz ⊢; subst hz; exact ⟨x, rfl, hy⟩
   | succ i => exact h2 i z (by simpa using hz)
  ·cases h
theorem zaam (hi : IdsOK R ids) (ho : ∀ b, out b → ρ.out b ∨ Own ρ R b) : ∀ {x : B} {y : Value}, RB w ρ R x y → RB w (zb3 ρ ids out) (zcg keep ids 0 ids) (renB keep ids x) y
 | .v x, y, h => h
 | .ro n cs ex lo, y, ⟨a, cap, e, hn, hex, hc⟩ => ⟨a, cap, e, hn, hex, hc.imp id fun ⟨ad, ha, hs, hr⟩ => ⟨ad, ha, zgg hi ho hs, zgh (S' := fun l => zbw l w (zb3 ρ ids out) (zcg keep ids 0 ids)) (fun l b hb => ⟨zgg hi ho hb, rfl⟩) rfl hr⟩⟩
 | .rf r g off len, y, ⟨hsh, e, he, hf, hl⟩ => by
  simp only [renB]
  cases hfi : zcf ids r 0 with
  | none => trivial
  | some p =>
   obtain ⟨j, rt⟩ := p
   obtain ⟨_, hj⟩ := zgn hfi
   simp only [Nat.sub_zero] at hj
   have hlive := hi.get hj
   simp only [] at hlive
   rw [he] at hlive; cases hlive
   simp only []
   split
   ·rename_i hg
    have hok := (hl rt rfl).2 hg
    refine ⟨hsh, .live (zbn keep ids j rt), by rw [zes, hj]; simp, (fun h => by cases h), fun rt' h => ?_⟩
    cases h
    refine ⟨?_, fun _ => ?_⟩
    ·show (if j < keep then min g 1 else 0) ≤ (if j < keep then min rt.g 1 else 0)
     split <;> omega
    ·have : zb3 ρ ids out j = ρ r := by simp [zb3, hj]
     rw [this]; exact zax3 hok
   ·trivial
 | .pt r g off, y, ⟨hsh, e, he, hf, hl⟩ => by
  simp only [renB]
  cases hfi : zcf ids r 0 with
  | none => trivial
  | some p =>
   obtain ⟨j, rt⟩ := p
   obtain ⟨_, hj⟩ := zgn hfi
   simp only [Nat.sub_zero] at hj
   have hlive := hi.get hj
   simp only [] at hlive
   rw [he] at hlive; cases hlive
   simp only []
   split
   ·rename_i hg
    have hok := (hl rt rfl).2 hg
    refine ⟨hsh, .live (zbn keep ids j rt), by rw [zes, hj]; simp, (fun h => by cases h), fun rt' h => ?_⟩
    cases h
    refine ⟨?_, fun _ => ?_⟩
    ·show (if j < keep then min g 1 else 0) ≤ (if j < keep then min rt.g 1 else 0)
     split <;> omega
    ·have : zb3 ρ ids out j = ρ r := by simp [zb3, hj]
     rw [this]; exact hok
   ·trivial
 | .clo f ps, y, ⟨ys, e, hl, hy⟩ => by
  simp only [renB]
  cases hq : zi1 (renP keep ids) ps with
  | none => trivial
  | some qs =>
   obtain ⟨h1, h2⟩ := zob hq
   exact ⟨ys, e, h1.trans hl, fun i q z hz hzy => by
    obtain ⟨p, hp, hpq⟩ := h2 i q hz
    exact zbi2 hi hpq (hy i p z hp hzy)⟩
 | .pr cs lo, y, ⟨ad, e, hs, hr⟩ => ⟨ad, e, zgg hi ho hs, zgh (S' := fun l => zbw l w (zb3 ρ ids out) (zcg keep ids 0 ids)) (fun l b hb => ⟨zgg hi ho hb, rfl⟩) rfl hr⟩
 | .dead, y, _ => trivial
theorem zbb9 {w w' : World} {ρ ρ' : Rho} {R R' : Tab} {f : B → B} (h : ∀ x y, RB w ρ R x y → RB w' ρ' R' (f x) y) {xs : List B} {ys : List Value} (hr : RBs w ρ R xs ys) : RBs w' ρ' R' (xs.map f) ys := by
 refine ⟨by simp [hr.1], fun i x y hx hy => ?_⟩
 rw [qn] at hx
 obtain ⟨z, hz, rfl⟩ := qf.1 hx
 exact h z y (hr.2 i z y hz hy)
theorem zaow (hi : IdsOK R ids) (ho : ∀ b, out b → ρ.out b ∨ Own ρ R b) : ∀ {x : G} {y : Value}, RG w ρ R x y → RG w (zb3 ρ ids out) (zcg keep ids 0 ids) (renG keep ids x) y
 | .b x, y, h => zaam hi ho (show RB w ρ R x y from h)
 | .ag xs, y, ⟨ys, e, h⟩ => ⟨ys, e, zbb9 (fun x y h => zaam hi ho h) h⟩
theorem zaox {w w' : World} {ρ ρ' : Rho} {R R' : Tab} {f : G → G} (h : ∀ x y, RG w ρ R x y → RG w' ρ' R' (f x) y) {xs : List G} {ys : List Value} (hr : RGs w ρ R xs ys) : RGs w' ρ' R' (xs.map f) ys := by
 refine ⟨by simp [hr.1], fun i x y hx hy => ?_⟩
 rw [qn] at hx
 obtain ⟨z, hz, rfl⟩ := qf.1 hx
 exact h z y (hr.2 i z y hz hy)
theorem zbi3 (hi : IdsOK R ids) (ho : ∀ b, out b → ρ.out b ∨ Own ρ R b) : ∀ {x : V} {y : Value}, RV w ρ R x y → RV w (zb3 ρ ids out) (zcg keep ids 0 ids) (renV keep ids x) y
 | .g x, y, h => zaow hi ho (show RG w ρ R x y from h)
 | .cl f caps, y, ⟨ys, e, h⟩ => ⟨ys, e, zaox (fun x y h => zaow hi ho h) h⟩
 | .tp xs, y, ⟨ys, e, h⟩ => ⟨ys, e, zaox (fun x y h => zaow hi ho h) h⟩
theorem zaou (hm : Mem w ρ R) (hi : IdsOK R ids) (ho : ∀ b, out b → ρ.out b ∨ Own ρ R b) (ha : ∀ p ∈ ids, ∀ b o, ρ p.1 = some (b, o) → ¬ out b) : Mem w (zb3 ρ ids out) (zcg keep ids 0 ids) := by
 have key : ∀ {j : Nat} {rt : Root}, (zcg keep ids 0 ids)[j]? = some (.live rt) → ∃ p, ids[j]? = some p ∧ rt = zbn keep ids j p.2 ∧ zb3 ρ ids out j = ρ p.1 := by
  intro j rt h
  rw [zes] at h
  obtain ⟨p, hp, he⟩ := qf.1 h
  cases he
  exact ⟨p, hp, by simp, by simp [zb3, hp]⟩
 refine ⟨fun j rt h => ?_, fun j k rt rt' b o o' hj hk h1 h2 => ?_, fun b hb => let ⟨p, hp, o, hr⟩ := zzr hi hb; ha p hp b o hr, fun b hb => (ho b hb).elim (hm.outlt b) hm.own_lt, hm.glob.1, fun b hb => ⟨(hm.glob.2 b hb).1, fun h => (hm.glob.2 b hb).2 (zjq hi h)⟩⟩
 ·obtain ⟨p, hp, rfl, hρ⟩ := key h
  have hr := hm.roots p.1 p.2 (hi.get hp)
  have hcells : ∀ (i : Nat) x, (zbn keep ids j p.2).cells[i]? = some x → ∃ x0, p.2.cells[i]? = some x0 ∧ x = renB keep ids x0 := by
   intro i x hx
   by_cases hrow : p.2.row = true
   ·simp only [zbn, hrow, if_true] at hx
    exact ⟨x, hx, (z69 (hr.2 hrow x (qp hx))).symm⟩
   ·simp only [zbn, hrow, if_false, qj] at hx
    rw [qn] at hx
    obtain ⟨x0, h0, rfl⟩ := qf.1 hx
    exact ⟨x0, h0, rfl⟩
  have hlen : (zbn keep ids j p.2).cells.length = p.2.cells.length := by
   show (if p.2.row then p.2.cells else p.2.cells.map (renB keep ids)).length = _
   split <;> simp
  refine ⟨?_, fun hrow x hx => ?_⟩
  ·rw [hρ]
   have h1 := hr.1
   cases hg : ρ p.1 with
   | none =>
    rw [hg] at h1
    have h1 : p.2.cells = [] := h1
    exact List.length_eq_zero_iff.1 (by rw [hlen, h1]; rfl)
   | some bo =>
    obtain ⟨b, o⟩ := bo
    rw [hg] at h1
    obtain ⟨c, T, fr, a1, a2, a3, a4⟩ := h1
    refine ⟨c, T, fr, a1, a2, by rw [hlen]; exact a3, fun i x hx => ?_⟩
    obtain ⟨x0, h0, rfl⟩ := hcells i x hx
    obtain ⟨y, hy, hrb⟩ := a4 i x0 h0
    exact ⟨y, hy, zaam hi ho hrb⟩
  ·have hrow' : p.2.row = true := hrow
   have : (zbn keep ids j p.2).cells = p.2.cells := by simp only [zbn, hrow', if_true]
   rw [this] at hx
   exact hr.2 hrow' x hx
 ·obtain ⟨p, hp, rfl, e1⟩ := key hj
  obtain ⟨q, hq, rfl, e2⟩ := key hk
  rw [e1] at h1; rw [e2] at h2
  exact hi.inj hp hq (hm.dist p.1 q.1 p.2 q.2 b o o' (hi.get hp) (hi.get hq) h1 h2)
end
theorem Pr.peek_run {α : Type} {r : Nat} {k : Option Root → Pr α} {R R2 : Tab} {b : α} (h : (Pr.peek r k).run R = some (b, R2)) :
  (∃ rt, R[r]? = some (.live rt) ∧ (k (some rt)).run R = some (b, R2)) ∨ (R[r]? = some .dead ∧ (k none).run R = some (b, R2)) := by
 simp only [Pr.run] at h
 split at h
 ·rename_i rt hrt; exact .inl ⟨rt, hrt, h⟩
 ·rename_i hrt; exact .inr ⟨hrt, h⟩
 ·cases h
theorem zhv : ∀ {fuel : Nat} {todo : List Nat} {acc ids : Ids} {R R' : Tab}, (zj7 fuel todo acc).run R = some (ids, R') → IdsOK R acc → R' = R ∧ IdsOK R ids ∧ ∃ more, ids = acc ++ more
 | fuel, [], acc, ids, R, R', h, ha => by
  cases fuel <;> (simp only [zj7] at h; obtain ⟨rfl, rfl⟩ := Pr.ret_run h; exact ⟨rfl, ha, [], by simp⟩)
 | 0, _ :: _, acc, ids, R, R', h, ha => Pr.fail_run h
 | k + 1, r :: todo, acc, ids, R, R', h, ha => by
  simp only [zj7] at h
  split at h
  ·exact zhv h ha
  ·rename_i hnot
   rcases Pr.peek_run h with ⟨rt, hrt, h⟩ | ⟨_, h⟩
   ·simp only [] at h
    have ha' : IdsOK R (acc ++ [(r, rt)]) := by
     refine ⟨?_, fun p hp => ?_⟩
     ·rw [List.map_append]
      refine List.nodup_append.2 ⟨ha.nodup, by simp, fun x hx y hy => ?_⟩
      simp at hy
      subst hy
      rintro rfl
      apply hnot
      obtain ⟨p, hp, rfl⟩ := List.mem_map.1 hx
      exact List.any_eq_true.2 ⟨p, hp, by simp⟩
     ·rcases kg.1 hp with hp | hp
      ·exact ha.live p hp
      ·simp at hp; subst hp; exact hrt
    obtain ⟨h1, h2, more, h3⟩ := zhv h ha'
    exact ⟨h1, h2, (r, rt) :: more, by rw [h3]; simp⟩
   ·exact zhv h ha
theorem zpe : ∀ {m j : Nat} {ids : Ids} {R R' : Tab}, (zzs m j).run R = some (ids, R') → R' = R ∧ ids.length = m ∧ ∀ (i : Nat) p, ids[i]? = some p → p.1 = j + i ∧ R[j + i]? = some (.live p.2)
 | 0, j, ids, R, R', h => by
  obtain ⟨rfl, rfl⟩ := Pr.ret_run h
  exact ⟨rfl, rfl, fun i p hp => by simp at hp⟩
 | m + 1, j, ids, R, R', h => by
  obtain ⟨rt, hrt, h⟩ := Pr.get_run h
  obtain ⟨ids', R1, h1, h⟩ := Pr.bind_run h
  obtain ⟨rfl, rfl⟩ := Pr.ret_run h
  obtain ⟨rfl, h2, h3⟩ := zpe h1
  refine ⟨rfl, by simp [h2], fun i p hp => ?_⟩
  cases i with
  | zero => simp at hp; subst hp; exact ⟨rfl, hrt⟩
  | succ i =>
   simp at hp
   obtain ⟨a, b⟩ := h3 i p hp
   exact ⟨by omega, by rw [show j + (i + 1) = j + 1 + i by omega]; exact b⟩
theorem zv9 {m : Nat} {vs : List V} {ids : Ids} {R R' : Tab} (h : (z7j m vs).run R = some (ids, R')) : R' = R ∧ IdsOK R ids ∧ (∀ j, j < m → ∃ rt, ids[j]? = some (j, rt)) := by
 unfold z7j at h
 obtain ⟨ps, R1, h1, h2⟩ := Pr.bind_run h
 obtain ⟨rfl, hlen, hps⟩ := zpe h1
 have hok : IdsOK R1 ps := by
  refine ⟨?_, fun p hp => ?_⟩
  ·have : ps.map (·.1) = List.range m := by
    apply List.ext_getElem?
    intro i
    rw [qn]
    cases hp : ps[i]? with
    | none =>
     have := List.getElem?_eq_none_iff.1 hp
     rw [List.getElem?_eq_none (by simp; omega)]; rfl
    | some p =>
     have hlt := (qh.1 hp).1
     rw [List.getElem?_range (by omega)]
     simp [(hps i p hp).1]
   rw [this]; exact List.nodup_range
  ·obtain ⟨i, hi⟩ := List.getElem?_of_mem hp
   obtain ⟨a, b⟩ := hps i p hi
   rw [a]; exact b
 obtain ⟨rfl, h3, more, h4⟩ := zhv h2 hok
 refine ⟨rfl, h3, fun j hj => ?_⟩
 have hlt : j < ps.length := by omega
 have hp : ps[j]? = some ps[j] := qb hlt
 refine ⟨ps[j].2, ?_⟩
 rw [h4, kn hlt, hp]
 have := (hps j _ hp).1
 simp only [Nat.zero_add] at this
 exact congrArg some (Prod.ext this rfl)
end Go.Gm
