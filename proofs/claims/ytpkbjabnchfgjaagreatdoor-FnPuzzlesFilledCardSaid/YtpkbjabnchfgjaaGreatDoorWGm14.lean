import Derived.Test.YtpkbjabnchfgjaaGreatDoorWGm13
namespace Go.Gm
set_option linter.unusedSimpArgs false
set_option linter.unusedVariables false
set_option linter.unnecessarySimpa false
theorem AllLive.tail {e : Ent} {R : Tab} (h : AllLive (e :: R)) : AllLive R := fun j x hx => h (j + 1) x (by simpa using hx)
theorem AllLive.cons {rt : Root} {R : Tab} (h : AllLive R) : AllLive (.live rt :: R) := fun j x hx => by
 cases j with
 | zero => simp at hx; exact ⟨rt, hx.symm⟩
 | succ j => simp at hx; exact h j x hx
theorem zaao {ids : Ids} {base : Nat} : ∀ {news : Tab} {i : Nat} {R R3 : Tab} {u : Unit}, (zj0 ids base [] i news).run R = some (u, R3) →
  AllLive news ∧ (∀ (k : Nat) rt, news[k]? = some (.live rt) → R3[base + i + k]? = some (.live (zbp ids base rt)) ∧ R[base + i + k]? = some .fresh) ∧ ∀ r, (∀ k, k < news.length → base + i + k ≠ r) → R3[r]? = R[r]?
 | [], i, R, R3, u, h => by
  simp only [zj0] at h
  obtain ⟨_, rfl⟩ := Pr.ret_run h
  exact ⟨fun j e he => by simp at he, fun k rt hk => by simp at hk, fun r _ => rfl⟩
 | .fresh :: news, i, R, R3, u, h => by simp only [zj0] at h; exact Pr.fail_run h
 | .dead :: news, i, R, R3, u, h => by simp only [zj0] at h; exact Pr.fail_run h
 | .live rt :: news, i, R, R3, u, h => by
  simp only [zj0] at h
  split at h
  ·obtain ⟨hfr, h⟩ := Pr.mk_run h
   obtain ⟨h1, h2, h3⟩ := zaao h
   refine ⟨h1.cons, fun k rt' hk => ?_, fun r hr => ?_⟩
   ·cases k with
    | zero =>
     simp at hk; subst hk
     refine ⟨?_, hfr⟩
     rw [Nat.add_zero, h3 (base + i) (fun k hk => by omega)]
     exact za0 hfr
    | succ k =>
     simp at hk
     obtain ⟨a, b⟩ := h2 k rt' hk
     rw [show base + i + (k + 1) = base + (i + 1) + k by omega]
     refine ⟨a, ?_⟩
     rw [zaj (by omega)] at b
     exact b
   ·rw [h3 r (fun k hk => by have := hr (k + 1) (by simp; omega); omega)]
    exact zaj (by have := hr 0 (by simp); omega)
  ·exact Pr.fail_run h
theorem z1s {all : Ids} {base : Nat} : ∀ {ids : Ids} {R2 R R3 : Tab} {u : Unit}, (zj0 all base ids 0 R2).run R = some (u, R3) → IdsOK R ids →
  ids.length ≤ R2.length ∧ AllLive R2 ∧ (∀ (j : Nat) p rt, ids[j]? = some p → R2[j]? = some (.live rt) → R3[p.1]? = some (.live { zbp all base rt with g := p.2.g + rt.g })) ∧
  (∀ (i : Nat) rt, R2[ids.length + i]? = some (.live rt) → R3[base + i]? = some (.live (zbp all base rt)) ∧ R[base + i]? = some .fresh) ∧
  ∀ r, (∀ p ∈ ids, p.1 ≠ r) → (∀ i, ids.length + i < R2.length → base + i ≠ r) → R3[r]? = R[r]?
 | [], R2, R, R3, u, h, hi => by
  obtain ⟨h1, h2, h3⟩ := zaao h
  refine ⟨Nat.zero_le _, h1, fun j p rt hp => by simp at hp, fun i rt hr => ?_, fun r _ hr => h3 r fun k hk => ?_⟩
  ·have := h2 i rt (by simpa using hr)
   simpa using this
  ·have := hr k (by simpa using hk)
   simpa using this
 | (r0, rt0) :: ids, [], R, R3, u, h, hi => by simp only [zj0] at h; exact Pr.fail_run h
 | (r0, rt0) :: ids, .fresh :: R2, R, R3, u, h, hi => by simp only [zj0] at h; exact Pr.fail_run h
 | (r0, rt0) :: ids, .dead :: R2, R, R3, u, h, hi => by simp only [zj0] at h; exact Pr.fail_run h
 | (r0, rt0) :: ids, .live rt :: R2, R, R3, u, h, hi => by
  simp only [zj0] at h
  obtain ⟨_, hr0, h⟩ := Pr.put_run h
  have hnd0 := hi.nodup
  rw [qu] at hnd0
  have hnd := List.nodup_cons.1 hnd0
  have hi' : IdsOK (R.set r0 (.live { zbp all base rt with g := rt0.g + rt.g })) ids := by
   refine ⟨hnd.2, fun p hp => ?_⟩
   rw [zaj (fun e => hnd.1 (List.mem_map.2 ⟨p, hp, e.symm⟩))]
   exact hi.live p (qv _ hp)
  obtain ⟨h1, h2, h3, h4, h5⟩ := z1s h hi'
  refine ⟨by simp; omega, h2.cons, fun j p rt' hp hr => ?_, fun i rt' hr => ?_, fun r hr hn => ?_⟩
  ·cases j with
   | zero =>
    simp at hp hr; subst hp hr
    simp only []
    rw [h5 r0 (fun p hp e => hnd.1 (List.mem_map.2 ⟨p, hp, e⟩)) (fun i hi2 e => ?_)]
    ·exact za0 hr0
    ·have hlt : ids.length + i < R2.length := hi2
     obtain ⟨rtx, hx⟩ := h2 (ids.length + i) _ (qb hlt)
     have := (h4 i rtx (by rw [qb hlt, hx])).2
     rw [e, za0 hr0] at this
     cases this
   | succ j => simp at hp hr; exact h3 j p rt' hp hr
  ·have hr' : R2[ids.length + i]? = some (.live rt') := by
    rw [qk, show ids.length + 1 + i = (ids.length + i) + 1 by omega] at hr
    simpa using hr
   obtain ⟨a, b⟩ := h4 i rt' hr'
   refine ⟨a, ?_⟩
   by_cases e : r0 = base + i
   ·rw [← e, za0 hr0] at b; cases b
   ·rw [zaj e] at b; exact b
  ·rw [h5 r (fun p hp => hr p (qv _ hp)) (fun i hi2 => hn i (by simp at hi2 ⊢; omega))]
   exact zaj (hr (r0, rt0) List.mem_cons_self)
section
variable {w w2 : World} {ρ ρ2 : Rho} {R R2 R3 : Tab} {ids : Ids} {base : Nat}
def outC (ρ : Rho) (R : Tab) (ids : Ids) (b : Nat) : Prop := ρ.out b ∨ ∃ r rt o, R[r]? = some (.live rt) ∧ ρ r = some (b, o) ∧ ∀ p ∈ ids, p.1 ≠ r
theorem zatl {ρ : Rho} {R : Tab} {ids : Ids} (b : Nat) (h : outC ρ R ids b) : ρ.out b ∨ Own ρ R b := h.imp id fun ⟨r, rt, o, h1, h2, _⟩ => ⟨r, rt, o, h1, h2⟩
theorem za1r {w : World} {ρ : Rho} {R : Tab} {ids : Ids} (hm : Mem w ρ R) (hi : IdsOK R ids) (p : Nat × Root) (hp : p ∈ ids) (b o : Nat) (h : ρ p.1 = some (b, o)) : ¬ outC ρ R ids b := by
 rintro (hb | ⟨r, rt, o', h1, h2, h3⟩)
 ·exact hm.apart b ⟨p.1, p.2, o, hi.live p hp, h⟩ hb
 ·exact h3 p hp (hm.dist p.1 r p.2 rt b o o' (hi.live p hp) h1 h h2)
def zk8 (ρ ρ2 : Rho) (ids : Ids) (base n : Nat) : Rho := ⟨fun r =>
 match zcf ids r 0 with
 | some (j, _) => ρ2 j
 | none => if base ≤ r ∧ ids.length + (r - base) < n then ρ2 (ids.length + (r - base)) else ρ r, ρ.out⟩
theorem zhq : ∀ {ids : Ids} {r k : Nat}, zcf ids r k = none ↔ ∀ p ∈ ids, p.1 ≠ r
 | [], r, k => by simp [zcf]
 | (r', rt) :: ids, r, k => by
  simp only [zcf]
  split
  ·rename_i e; simp [e]
  ·rename_i e
   rw [zhq]
   simp [e]
theorem zapw (hi : IdsOK R ids) {j : Nat} {p : Nat × Root} (h : ids[j]? = some p) : zcf ids p.1 0 = some (j, p.2) := by
 cases hf : zcf ids p.1 0 with
 | none => exact absurd rfl (zhq.1 hf p (qp h))
 | some q =>
  obtain ⟨k, rt⟩ := q
  obtain ⟨_, hk⟩ := zgn hf
  simp only [Nat.sub_zero] at hk
  have := hi.inj h hk rfl
  subst this
  rw [h] at hk
  obtain ⟨p1, p2⟩ := p
  cases hk
  rfl
theorem zph {n r : Nat} (hin : ∀ p ∈ ids, p.1 ≠ r) (hnew : ∀ i, ids.length + i < n → base + i ≠ r) : zk8 ρ ρ2 ids base n r = ρ r := by
 show (match zcf ids r 0 with
  | some (j, _) => ρ2 j
  | none => if base ≤ r ∧ ids.length + (r - base) < n then ρ2 (ids.length + (r - base)) else ρ r) = ρ r
 rw [zhq.2 hin]
 simp only []
 rw [if_neg]
 rintro ⟨h1, h2⟩
 exact hnew (r - base) h2 (by omega)
theorem z7a {x : B} (h : x.closed = true) : subB ids base x = x := by
 cases x <;> first | rfl | simp [B.closed] at h
def zb2 (ids : Ids) (base j : Nat) : Nat := match ids[j]? with
 | some (r, _) => r
 | none => base + (j - ids.length)
def zeu (ids : Ids) (j g : Nat) : Nat := match ids[j]? with
 | some (_, rt) => rt.g + g
 | none => g
theorem zatt (hi : IdsOK R ids) (hb : Back ids base R R2 R3) {j : Nat} (hj : j < R2.length) : zk8 ρ ρ2 ids base R2.length (zb2 ids base j) = ρ2 j := by
 unfold zb2 zk8
 cases h : ids[j]? with
 | some p => simp only [zapw hi h]
 | none =>
  simp only []
  have hge := List.getElem?_eq_none_iff.1 h
  have hlt : ids.length + (j - ids.length) < R2.length := by omega
  obtain ⟨rt, hrt⟩ := hb.all _ _ (qb hlt)
  have hfr := (hb.new (j - ids.length) rt (by rw [qb hlt, hrt])).2
  have hnone : zcf ids (base + (j - ids.length)) 0 = none := zhq.2 fun p hp e => by
   have := hi.live p hp
   rw [e, hfr] at this; cases this
  rw [hnone]
  simp only []
  rw [if_pos ⟨by omega, by omega⟩]
  congr 1; omega
theorem zi3 (hb : Back ids base R R2 R3) {j : Nat} {rt : Root} (h : R2[j]? = some (.live rt)) : R3[zb2 ids base j]? = some (.live { zbp ids base rt with g := zeu ids j rt.g }) := by
 unfold zb2 zeu
 cases hj : ids[j]? with
 | some p => exact hb.old j p rt hj h
 | none =>
  have hge := List.getElem?_eq_none_iff.1 hj
  simp only []
  exact (hb.new (j - ids.length) rt (by rw [show ids.length + (j - ids.length) = j by omega]; exact h)).1
theorem zbeu {j g off len : Nat} : subB ids base (.rf j g off len) = .rf (zb2 ids base j) (zeu ids j g) off len := by
 simp only [subB, zb2, zeu]
 cases ids[j]? with
 | none => rfl
 | some p => rfl
theorem zbet {j g off : Nat} : subB ids base (.pt j g off) = .pt (zb2 ids base j) (zeu ids j g) off := by
 simp only [subB, zb2, zeu]
 cases ids[j]? with
 | none => rfl
 | some p => rfl
theorem zafn {p : Nat × Nat × Nat} : subP ids base p = (zb2 ids base p.1, zeu ids p.1 p.2.1, p.2.2) := by
 obtain ⟨j, g, off⟩ := p
 unfold subP zb2 zeu
 simp only
 cases ids[j]? <;> rfl
theorem zaec (hi : IdsOK R ids) (hb : Back ids base R R2 R3) {r : Nat} {rt : Root} (h : R3[r]? = some (.live rt)) :
  (∃ j rt2, R2[j]? = some (.live rt2) ∧ r = zb2 ids base j ∧ rt = { zbp ids base rt2 with g := zeu ids j rt2.g }) ∨
  (R[r]? = some (.live rt) ∧ (∀ p ∈ ids, p.1 ≠ r) ∧ zk8 ρ ρ2 ids base R2.length r = ρ r) := by
 by_cases hin : ∃ p ∈ ids, p.1 = r
 ·obtain ⟨p, hp, rfl⟩ := hin
  obtain ⟨j, hj⟩ := List.getElem?_of_mem hp
  have hlt : j < R2.length := Nat.lt_of_lt_of_le (qh.1 hj).1 hb.len
  obtain ⟨rt2, hrt2⟩ := hb.all j _ (qb hlt)
  have h2 : R2[j]? = some (.live rt2) := by rw [qb hlt, hrt2]
  have h3 := zi3 hb h2
  have hpl : zb2 ids base j = p.1 := by simp [zb2, hj]
  rw [hpl, h] at h3
  cases h3
  exact .inl ⟨j, rt2, h2, hpl.symm, rfl⟩
 ·have hin' : ∀ p ∈ ids, p.1 ≠ r := fun p hp e => hin ⟨p, hp, e⟩
  by_cases hnew : ∃ i, ids.length + i < R2.length ∧ base + i = r
  ·obtain ⟨i, hi2, rfl⟩ := hnew
   obtain ⟨rt2, hrt2⟩ := hb.all _ _ (qb hi2)
   have h2 : R2[ids.length + i]? = some (.live rt2) := by rw [qb hi2, hrt2]
   have h3 := zi3 hb h2
   have hn : ids[ids.length + i]? = none := List.getElem?_eq_none (by omega)
   have hpl : zb2 ids base (ids.length + i) = base + i := by simp [zb2]
   rw [hpl, h] at h3
   cases h3
   exact .inl ⟨ids.length + i, rt2, h2, hpl.symm, rfl⟩
  ·have hnew' : ∀ i, ids.length + i < R2.length → base + i ≠ r := fun i h1 e => hnew ⟨i, h1, e⟩
   refine .inr ⟨by rw [← hb.rest r hin' hnew']; exact h, hin', ?_⟩
   exact zph hin' hnew'
theorem Step.back (hm : Mem w ρ R) (hi : IdsOK R ids) (st : Step w (zb3 ρ ids (outC ρ R ids)) (zcg 0 ids 0 ids) w2 ρ2 R2) (hb : Back ids base R R2 R3)
  (hret : ∀ (j : Nat) rt, R2[j]? = some (.live rt) → ∀ x ∈ rt.cells, x.retOK = true) :
  Step w ρ R w2 (zk8 ρ ρ2 ids base R2.length) R3 ∧ ∀ x y, x.retOK = true → RB w2 ρ2 R2 x y → RB w2 (zk8 ρ ρ2 ids base R2.length) R3 (subB ids base x) y := by
 generalize hρ3 : zk8 ρ ρ2 ids base R2.length = ρ3
 have hpr : ∀ {j : Nat}, j < R2.length → ρ3 (zb2 ids base j) = ρ2 j := fun hj => by rw [← hρ3]; exact zatt hi hb hj
 have hout : ∀ b, ρ3.out b ↔ ρ.out b := fun b => by rw [← hρ3]; exact Iff.rfl
 have cases' : ∀ {r : Nat} {rt : Root}, R3[r]? = some (.live rt) →
   (∃ j rt2, R2[j]? = some (.live rt2) ∧ r = zb2 ids base j ∧ rt = { zbp ids base rt2 with g := zeu ids j rt2.g }) ∨
   (R[r]? = some (.live rt) ∧ (∀ p ∈ ids, p.1 ≠ r) ∧ ρ3 r = ρ r) := fun h => by rw [← hρ3]; exact zaec hi hb h
 have hout2 : ∀ b, ρ2.out b ↔ outC ρ R ids b := fun b => st.ext.out b
 have hown : ∀ b, Own ρ3 R3 b → Own ρ2 R2 b ∨ ∃ r rt o, R[r]? = some (.live rt) ∧ ρ r = some (b, o) ∧ ∀ p ∈ ids, p.1 ≠ r := by
  rintro b ⟨r, rt, o, hr, hρ⟩
  rcases cases' hr with ⟨j, rt2, h2, rfl, _⟩ | ⟨h1, h2, h3⟩
  ·left
   rw [hpr (qh.1 h2).1] at hρ
   exact ⟨j, rt2, o, h2, hρ⟩
  ·right
   rw [h3] at hρ
   exact ⟨r, rt, o, h1, hρ, h2⟩
 have other : ∀ {r : Nat} {rt : Root} {b o : Nat}, R[r]? = some (.live rt) → ρ r = some (b, o) → (∀ p ∈ ids, p.1 ≠ r) → zse w2 ρ2 R2 b ∧ w2.heap[b]? = w.heap[b]? := by
  intro r rt b o hr hρ hn
  refine st.ext.stab b ⟨hm.own_lt ⟨r, rt, o, hr, hρ⟩, fun ho => ?_⟩
  obtain ⟨p, hp, o', hρ'⟩ := zzr hi ho
  exact hn p hp (hm.dist p.1 r p.2 rt b o' o (hi.live p hp) hr hρ' hρ)
 have hstab : ∀ b, zse w ρ R b → zse w2 ρ3 R3 b ∧ w2.heap[b]? = w.heap[b]? := by
  intro b hbs
  obtain ⟨h1, h2⟩ := st.ext.stab b ⟨hbs.1, fun ho => hbs.2 (zjq hi ho)⟩
  refine ⟨⟨h1.1, fun ho => ?_⟩, h2⟩
  rcases hown b ho with h | ⟨r, rt, o, hr, hρ, _⟩
  ·exact h1.2 h
  ·exact hbs.2 ⟨r, rt, o, hr, hρ⟩
 have hlo : ∀ b, zbw true w2 ρ2 R2 b → zbw true w2 ρ3 R3 b := by
  intro b h
  have hno := h.2 rfl
  rw [hout2] at hno
  refine ⟨⟨h.1.1, fun ho => ?_⟩, fun _ ho => hno (.inl ((hout b).1 ho))⟩
  rcases hown b ho with h' | h'
  ·exact h.1.2 h'
  ·exact hno (.inr h')
 have hrf : ∀ {j g off len : Nat} {rt2 : Root} {y : Value}, RfOK w2 (ρ2 j) rt2 off len y → j < R2.length → RfOK w2 (ρ3 (zb2 ids base j)) { zbp ids base rt2 with g := g } off len y := by
  intro j g off len rt2 y h hj
  obtain ⟨a, cap, h1, h2, h3, h4, h5, h6⟩ := h
  refine ⟨a, cap, h1, h2, h3, h4, ?_, by rw [hpr hj]; exact h6⟩
  show (if rt2.row then rt2.cells else rt2.cells.map (subB ids base)).length ≤ (off + cap) * rt2.es
  split <;> first
   | exact h5
   | (rw [km]; exact h5)
 have hG : ∀ {j g g' : Nat}, g ≤ g' → zeu ids j g ≤ zeu ids j g' ∧ (zeu ids j g' = zeu ids j g → g' = g) := by
  intro j g g' h
  unfold zeu
  split <;> exact ⟨by omega, fun h => by omega⟩
 have hsub : ∀ x y, x.retOK = true → RB w2 ρ2 R2 x y → RB w2 ρ3 R3 (subB ids base x) y := by
  intro x y hx h
  cases x with
  | v z => exact h
  | ro n cs ex lo =>
   cases lo with
   | false => simp [B.retOK] at hx
   | true =>
    obtain ⟨a, cap, e, hn, hex, hc⟩ := h
    simp only [B.retOK, Bool.true_and, qt] at hx
    refine ⟨a, cap, e, hn, hex, hc.imp id fun ⟨ad, ha, hs, hr⟩ => ⟨ad, ha, hlo _ hs, fun i c hi => ?_⟩⟩
    obtain ⟨v, hv, hrc⟩ := hr i c hi
    refine ⟨v, hv, ?_⟩
    have hok := hx c (qp hi)
    cases c with
    | v z => exact hrc
    | sl l n' xs' =>
     have hl : l = true := hok
     subst hl
     obtain ⟨a', cap', e', hn', hx'⟩ := hrc
     exact ⟨a', cap', e', hn', hx'.imp id fun ⟨ad', ha', hs', hc'⟩ => ⟨ad', ha', hlo _ hs', hc'⟩⟩
  | rf j g off len =>
   rw [zbeu]
   obtain ⟨hsh, e, he, hf, hl⟩ := h
   obtain ⟨rt2, rfl⟩ := hb.all j e he
   obtain ⟨hg, hok⟩ := hl rt2 rfl
   refine ⟨hsh, _, zi3 hb he, (fun h => by cases h), fun rt h => ?_⟩
   cases h
   exact ⟨(hG hg).1, fun hgg => hrf (hok ((hG hg).2 hgg)) (qh.1 he).1⟩
  | pt j g off =>
   rw [zbet]
   obtain ⟨hsh, e, he, hf, hl⟩ := h
   obtain ⟨rt2, rfl⟩ := hb.all j e he
   obtain ⟨hg, hok⟩ := hl rt2 rfl
   refine ⟨hsh, _, zi3 hb he, (fun h => by cases h), fun rt h => ?_⟩
   cases h
   exact ⟨(hG hg).1, fun hgg => by rw [hpr (qh.1 he).1]; exact hok ((hG hg).2 hgg)⟩
  | clo f ps =>
   obtain ⟨ys, e, hl, hy⟩ := h
   refine ⟨ys, e, by simpa using hl, fun i p z hp hz => ?_⟩
   rw [qn] at hp
   obtain ⟨p0, hp0, rfl⟩ := qf.1 hp
   obtain ⟨hsh, e, he, hf, hl⟩ := hy i p0 z hp0 hz
   obtain ⟨rt2, rfl⟩ := hb.all p0.1 e he
   obtain ⟨hg, hok⟩ := hl rt2 rfl
   rw [zafn]
   refine ⟨hsh, _, zi3 hb he, (fun h => by cases h), fun rt h => ?_⟩
   cases h
   exact ⟨(hG hg).1, fun hgg => by show ∃ b o, ρ3 (zb2 ids base p0.1) = some (b, o) ∧ _; rw [hpr (qh.1 he).1]; exact hok ((hG hg).2 hgg)⟩
  | pr cs lo => simp [B.retOK] at hx
  | dead => trivial
 have hext : Ext w ρ R w2 ρ3 R3 := by
  refine ⟨hstab, hout, fun r e he hf => ?_⟩
  by_cases hin : ∃ p ∈ ids, p.1 = r
  ·obtain ⟨p, hp, rfl⟩ := hin
   obtain ⟨j, hj⟩ := List.getElem?_of_mem hp
   have hlive := hi.live p hp
   rw [he] at hlive; cases hlive
   have hlt : j < R2.length := Nat.lt_of_lt_of_le (qh.1 hj).1 hb.len
   obtain ⟨rt2, hrt2⟩ := hb.all j _ (qb hlt)
   have h2 : R2[j]? = some (.live rt2) := by rw [qb hlt, hrt2]
   refine ⟨_, hb.old j p rt2 hj h2, (fun h => by cases h), fun rt' h => ?_⟩
   cases h
   obtain ⟨e', he', _, hl⟩ := st.ext.ent j (.live (zbn 0 ids j p.2)) (by rw [zes, hj]; simp) (fun h => by cases h)
   rw [h2] at he'; cases he'
   obtain ⟨rt0, hrt0, hg0, hsame⟩ := hl rt2 rfl
   cases hrt0
   have hg00 : (zbn 0 ids j p.2).g = 0 := by simp [zbn]
   refine ⟨p.2, rfl, Nat.le_add_right _ _, fun hgg => ?_⟩
   have hrt2g : rt2.g = 0 := by have : p.2.g + rt2.g = p.2.g := hgg; omega
   obtain ⟨s1, s2, s3, s4, s5⟩ := hsame (by omega)
   have hrho : zb3 ρ ids (outC ρ R ids) j = ρ p.1 := by simp [zb3, hj]
   have hpl : zb2 ids base j = p.1 := by simp [zb2, hj]
   rw [hrho] at s3 s5
   refine ⟨s1, s2, ?_, ?_, s5⟩
   ·rw [← hpl, hpr hlt, s3, hpl]
   ·show (if rt2.row then rt2.cells else rt2.cells.map (subB ids base)).length ≤ _
    have e1 : (zbn 0 ids j p.2).cells.length = p.2.cells.length := by
     show (if p.2.row then p.2.cells else p.2.cells.map (renB 0 ids)).length = _
     split <;> simp
    rw [e1] at s4
    split <;> first
     | exact s4
     | (rw [km]; exact s4)
  ·have hin' : ∀ p ∈ ids, p.1 ≠ r := fun p hp e => hin ⟨p, hp, e⟩
   have hnew' : ∀ i, ids.length + i < R2.length → base + i ≠ r := by
    rintro i h1 rfl
    obtain ⟨rt2, hrt2⟩ := hb.all _ _ (qb h1)
    have := (hb.new i rt2 (by rw [qb h1, hrt2])).2
    rw [he] at this; cases this
    exact hf rfl
   refine ⟨e, by rw [hb.rest r hin' hnew']; exact he, hf, fun rt' h => ?_⟩
   subst h
   refine ⟨rt', rfl, qi _, fun _ => ⟨rfl, rfl, ?_, qi _, fun b o hbo => ?_⟩⟩
   ·rw [← hρ3]; exact zph hin' hnew'
   ·simp [bsz, (other he hbo hin').2]
 refine ⟨⟨hext, ⟨fun r rt h => ?_, fun r r' rt rt' b o o' h h' g1 g2 => ?_, fun b h hob => ?_, fun b h => ?_, hm.globE hext⟩, st.os, st.output, st.size, fun b h => ?_⟩, hsub⟩
 ·rcases cases' h with ⟨j, rt2, h2, rfl, rfl⟩ | ⟨h1, h2, h3⟩
  ·obtain ⟨hroot, hcl⟩ := st.mem.roots j rt2 h2
   have hcells : ∀ (i : Nat) x, ({ zbp ids base rt2 with g := zeu ids j rt2.g } : Root).cells[i]? = some x → ∃ x0, rt2.cells[i]? = some x0 ∧ x = subB ids base x0 ∧ x0.retOK = true := by
    intro i x hx
    by_cases hrow : rt2.row = true
    ·simp only [zbp, hrow, if_true] at hx
     have hc := hcl hrow x (qp hx)
     exact ⟨x, hx, (z7a hc).symm, hret j rt2 h2 x (qp hx)⟩
    ·simp only [zbp, hrow, if_false, qj] at hx
     rw [qn] at hx
     obtain ⟨x0, h0, rfl⟩ := qf.1 hx
     exact ⟨x0, h0, rfl, (hret j rt2 h2) x0 (qp h0)⟩
   have hlen : ({ zbp ids base rt2 with g := zeu ids j rt2.g } : Root).cells.length = rt2.cells.length := by
    show (if rt2.row then rt2.cells else rt2.cells.map (subB ids base)).length = _
    split <;> simp
   refine ⟨?_, fun hrow x hx => ?_⟩
   ·rw [hpr (qh.1 h2).1]
    cases hg : ρ2 j with
    | none =>
     rw [hg] at hroot
     have hroot : rt2.cells = [] := hroot
     exact List.length_eq_zero_iff.1 (by rw [hlen, hroot]; rfl)
    | some bo =>
     obtain ⟨b, o⟩ := bo
     rw [hg] at hroot
     obtain ⟨c, T, fr, a1, a2, a3, a4⟩ := hroot
     refine ⟨c, T, fr, a1, a2, by rw [hlen]; exact a3, fun i x hx => ?_⟩
     obtain ⟨x0, h0, rfl, hok⟩ := hcells i x hx
     obtain ⟨y, hy, hrb⟩ := a4 i x0 h0
     exact ⟨y, hy, hsub _ _ hok hrb⟩
   ·have hrow' : rt2.row = true := hrow
    have : ({ zbp ids base rt2 with g := zeu ids j rt2.g } : Root).cells = rt2.cells := by simp only [zbp, hrow', if_true]
    rw [this] at hx
    exact hcl hrow' x hx
  ·exact zba hext h3 (fun b o hbo => (other h1 hbo h2).2) (hm.roots r rt h1)
 ·rcases cases' h with ⟨j, rt2, h2, rfl, _⟩ | ⟨h1, h2, h3⟩
  ·have lj := (qh.1 h2).1
   rw [hpr lj] at g1
   rcases cases' h' with ⟨k, rt2', h2', rfl, _⟩ | ⟨h1', h2', h3'⟩
   ·rw [hpr (qh.1 h2').1] at g2
    rw [st.mem.dist j k rt2 rt2' b o o' h2 h2' g1 g2]
   ·rw [h3'] at g2
    exact absurd ⟨j, rt2, o, h2, g1⟩ (other h1' g2 h2').1.2
  ·rw [h3] at g1
   rcases cases' h' with ⟨k, rt2', h2', rfl, _⟩ | ⟨h1', h2', h3'⟩
   ·rw [hpr (qh.1 h2').1] at g2
    exact absurd ⟨k, rt2', o', h2', g2⟩ (other h1 g1 h2).1.2
   ·rw [h3'] at g2
    exact hm.dist r r' rt rt' b o o' h1 h1' g1 g2
 ·rw [hout] at hob
  rcases hown b h with h' | ⟨r, rt, o, h1, h2, _⟩
  ·exact st.mem.apart b h' ((hout2 b).2 (.inl hob))
  ·exact hm.apart b ⟨r, rt, o, h1, h2⟩ hob
 ·exact Nat.lt_of_lt_of_le (hm.outlt b ((hout b).1 h)) st.size
 ·rcases hown b h with h' | ⟨r, rt, o, h1, h2, _⟩
  ·exact (st.own b h').imp (fun h => zjq hi h) id
  ·exact .inl ⟨r, rt, o, h1, h2⟩
end
end Go.Gm
