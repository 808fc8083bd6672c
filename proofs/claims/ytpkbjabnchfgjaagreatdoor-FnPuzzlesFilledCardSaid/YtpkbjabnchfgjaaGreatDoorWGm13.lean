import Derived.Test.YtpkbjabnchfgjaaGreatDoorWGm12
namespace Go.Gm
set_option linter.unusedSimpArgs false
set_option linter.unusedVariables false
set_option linter.unnecessarySimpa false
def RVs (w : World) (ρ : Rho) (R : Tab) (xs : List V) (ys : List Value) : Prop := xs.length = ys.length ∧ ∀ (i : Nat) x y, xs[i]? = some x → ys[i]? = some y → RV w ρ R x y
def AllLive (R : Tab) : Prop := ∀ (j : Nat) e, R[j]? = some e → ∃ rt, e = .live rt
def AllZ (R : Tab) : Prop := ∀ (j : Nat) e, R[j]? = some e → ∃ rt, e = .live rt ∧ rt.g = 0
def FnOK (P : Program) (f : FuncId) (F : List V → Tab → Option (V × Tab)) : Prop :=
 ∀ args R res R', F args R = some (res, R') → (∃ fn, P.funcs[f]? = some fn ∧ fn.body.isSome = true ∧ (fn.name == "runtime.NumGoroutine") = false) ∧
  ∀ w ρ vs, Mem w ρ R → AllZ R → RVs w ρ R args vs → Calls P f vs.toArray w fun e w' => ∃ x ρ', e = .returned x ∧ Step w ρ R w' ρ' R' ∧ RV w' ρ' R' res x
section
variable {w : World} {ρ : Rho} {R : Tab} {ids : Ids} {out : Nat → Prop}
theorem zvt : ∀ {cs : List C} {xs : List Value}, zyo cs = some xs → cs = xs.map C.v
 | [], xs, h => by simp only [zyo, qc] at h; subst h; rfl
 | .v x :: cs, xs, h => by
  simp only [zyo] at h
  obtain ⟨ys, hy, rfl⟩ := qf.1 h
  simp [zvt hy]
 | .sl lo n ys :: cs, xs, h => by simp [zyo] at h
theorem za6c {S : Bool → Nat → Prop} (hS : ∀ l b, zbw l w ρ R b → S l b) {x : B} {c : C} {y : Value} (h : x.toC = some c) (hr : RB w ρ R x y) : RC w S c y := by
 cases x with
 | v z => simp only [B.toC, qc] at h; subst h; exact hr
 | ro n cs ex lo =>
  simp only [B.toC] at h
  obtain ⟨xs, hx, rfl⟩ := qf.1 h
  obtain rfl := zvt hx
  obtain ⟨a, cap, hv, hn, _, hc⟩ := hr
  refine ⟨a, cap, hv, hn, ?_⟩
  rcases hc with hc | ⟨ad, ha, hs, hrd⟩
  ·left; simpa using hc
  ·refine .inr ⟨ad, ha, hS _ _ hs, fun i x hi => ?_⟩
   obtain ⟨y', hy', hr'⟩ := hrd i (.v x) (by rw [qn, hi]; rfl)
   have : y' = x := hr'
   rw [← this]; exact hy'
 | _ => simp [B.toC] at h
theorem z0a : ∀ {l : List B} {cs : List C}, toCs l = some cs → ∀ (i : Nat) c, cs[i]? = some c → ∃ x, l[i]? = some x ∧ x.toC = some c
 | [], cs, h, i, c, hc => by simp only [toCs, qc] at h; subst h; simp at hc
 | x :: xs, cs, h, i, c, hc => by
  simp only [toCs] at h
  split at h
  ·rename_i c0 cs0 h1 h2
   cases h
   cases i with
   | zero => simp at hc; subst hc; exact ⟨x, rfl, h1⟩
   | succ i => simp at hc; obtain ⟨z, hz, hzc⟩ := z0a h2 i c hc; exact ⟨z, by simpa using hz, hzc⟩
  ·cases h
theorem za15 {l : List B} {cs : List C} (h : toCs l = some cs) (hl : l = []) : cs = [] := by subst hl; simp only [toCs, qc] at h; exact h.symm
theorem zwi (hi : IdsOK R ids) {b : Nat} (h : Own (zb3 ρ ids out) (zcg 0 ids 0 ids) b) : ∃ p ∈ ids, ∃ o, ρ p.1 = some (b, o) := zzr hi h
theorem zum (hm : Mem w ρ R) (hi : IdsOK R ids) (ho : ∀ b, out b → ρ.out b ∨ Own ρ R b) {mode : Bool} {x x' : B} {y : Value} {R1 : Tab} (h : (zzu mode x).run R = some (x', R1)) (hx : RB w ρ R x y) (hap : ∀ r ∈ zup mode x, ∀ p ∈ ids, p.1 ≠ r) :
  R1 = R ∧ RB w (zb3 ρ ids out) (zcg 0 ids 0 ids) (renB 0 ids x') y := by
 have plain : ∀ {x' : B} {R1 : Tab}, (Pr.ret x).run R = some (x', R1) → R1 = R ∧ RB w (zb3 ρ ids out) (zcg 0 ids 0 ids) (renB 0 ids x') y := by
  intro x' R1 h
  obtain ⟨rfl, rfl⟩ := Pr.ret_run h
  exact ⟨rfl, zaam hi ho hx⟩
 cases x with
 | rf r g off len =>
  simp only [zzu] at h
  split at h
  ·exact plain h
  ·rename_i hmode
   obtain ⟨l, R2, h1, h2⟩ := Pr.bind_run h
   obtain ⟨hR, a, n, cap, hv, hn, hk, hl⟩ := zgt hm h1 hx
   cases hR
   obtain rfl : n = len := by
    rcases hk with ⟨cs, ex, lo, e⟩ | ⟨r', g', off', e⟩
    ·cases e
    ·cases e; rfl
   cases hcs : toCs l with
   | none => rw [hcs] at h2; exact Pr.fail_run h2
   | some cs =>
    rw [hcs] at h2
    obtain ⟨rfl, rfl⟩ := Pr.ret_run h2
    refine ⟨rfl, a, cap, hv, hn, (fun h => by cases h), ?_⟩
    have hapr : ∀ p ∈ ids, p.1 ≠ r := by
     have : mode = false := by simpa using hmode
     subst this
     exact hap r (by simp [zup])
    simp only [content, Pr.run] at h1
    split at h1
    ·rename_i rt hrt
     split at h1
     ·rename_i hc
      obtain ⟨rfl, _⟩ := Pr.ret_run h1
      obtain ⟨_, e, he, hf, hlv⟩ := hx
      rw [hrt] at he; cases he
      obtain ⟨a', cap', hv', hlen', hes, hrow, hcl, hcap⟩ := (hlv rt rfl).2 hc.1
      rw [hv'] at hv; cases hv
      rcases hcap with hcap | ⟨b, o, hgh, ha, hb⟩
      ·left
       have : n = 0 := by omega
       subst this
       exact za15 hcs (by simp [win])
      ·right
       refine ⟨_, ha, ⟨⟨hm.own_lt ⟨r, rt, o, hrt, hgh⟩, ?_⟩, (fun h => by cases h)⟩, ?_⟩
       ·intro hw
        obtain ⟨p, hp, o', hρ'⟩ := zwi hi hw
        exact hapr p hp (hm.dist p.1 r p.2 rt b o' o (hi.live p hp) hrt hρ' hgh)
       ·intro i c hcc
        obtain ⟨z, hz, hzc⟩ := z0a hcs i c hcc
        obtain ⟨y', hy', hr'⟩ := zff hm hrt hgh _ _ i z hz
        exact ⟨y', hy', za6c (S := fun l => zbw l w (zb3 ρ ids out) (zcg 0 ids 0 ids)) (fun l b hb => zgg hi ho hb) hzc hr'⟩
     ·exact Pr.fail_run h1
    ·cases h1
 | v z => exact plain h
 | ro n cs ex lo => exact plain h
 | pt r g off => exact plain h
 | clo f ps => exact plain h
 | pr cs lo => exact plain h
 | dead => exact plain h
theorem zol (hm : Mem w ρ R) (hi : IdsOK R ids) (ho : ∀ b, out b → ρ.out b ∨ Own ρ R b) {mode : Bool} : ∀ {xs xs' : List B} {ys : List Value} {R1 : Tab}, (zwk mode xs).run R = some (xs', R1) → RBs w ρ R xs ys → (∀ r ∈ xs.flatMap (zup mode), ∀ p ∈ ids, p.1 ≠ r) →
  R1 = R ∧ RBs w (zb3 ρ ids out) (zcg 0 ids 0 ids) (xs'.map (renB 0 ids)) ys
 | [], xs', ys, R1, h, hr, _ => by
  obtain ⟨rfl, rfl⟩ := Pr.ret_run h
  exact ⟨rfl, by simpa using hr.1, fun i x y hx => by simp at hx⟩
 | x :: xs, xs', ys, R1, h, hr, hap => by
  obtain ⟨y, ys', rfl, hx, hs⟩ := hr.tail
  obtain ⟨x1, R2, h1, h⟩ := Pr.bind_run h
  obtain ⟨xs1, R3, h2, h⟩ := Pr.bind_run h
  obtain ⟨rfl, rfl⟩ := Pr.ret_run h
  obtain ⟨e1, r1⟩ := zum hm hi ho h1 hx (fun r hr p hp => hap r (by simp [hr]) p hp)
  rw [e1] at h2
  obtain ⟨e2, r2⟩ := zol hm hi ho h2 hs (fun r hr p hp => hap r (by simp at hr ⊢; exact .inr hr) p hp)
  exact ⟨e2, RBs.cons r1 r2⟩
theorem z4l (hm : Mem w ρ R) (hi : IdsOK R ids) (ho : ∀ b, out b → ρ.out b ∨ Own ρ R b) {mode : Bool} {x x' : G} {y : Value} {R1 : Tab} (h : (zatp mode x).run R = some (x', R1)) (hx : RG w ρ R x y) (hap : ∀ r ∈ zuq mode x, ∀ p ∈ ids, p.1 ≠ r) :
  R1 = R ∧ RG w (zb3 ρ ids out) (zcg 0 ids 0 ids) (renG 0 ids x') y := by
 cases x with
 | b x =>
  obtain ⟨x1, R2, h1, h⟩ := Pr.bind_run h
  obtain ⟨rfl, rfl⟩ := Pr.ret_run h
  exact zum hm hi ho h1 hx hap
 | ag xs =>
  obtain ⟨x1, R2, h1, h⟩ := Pr.bind_run h
  obtain ⟨rfl, rfl⟩ := Pr.ret_run h
  obtain ⟨ys, rfl, hs⟩ := hx
  obtain ⟨rfl, r⟩ := zol hm hi ho h1 hs hap
  exact ⟨rfl, ys, rfl, r⟩
theorem RGs.tail {x : G} {xs : List G} {ys : List Value} (h : RGs w ρ R (x :: xs) ys) : ∃ y ys', ys = y :: ys' ∧ RG w ρ R x y ∧ RGs w ρ R xs ys' := by
 cases ys with
 | nil => have := h.1; simp at this
 | cons y ys' => exact ⟨y, ys', rfl, h.2 0 x y rfl rfl, ⟨by simpa using h.1, fun i x' y' hx hy => h.2 (i + 1) x' y' (by simpa using hx) (by simpa using hy)⟩⟩
theorem RGs.cons {x : G} {y : Value} {xs : List G} {ys : List Value} (h : RG w ρ R x y) (hs : RGs w ρ R xs ys) : RGs w ρ R (x :: xs) (y :: ys) := by
 refine ⟨by simp [hs.1], fun i x' y' hx hy => ?_⟩
 cases i with
 | zero => simp at hx hy; subst hx hy; exact h
 | succ i => simp at hx hy; exact hs.2 i x' y' hx hy
theorem RVs.tail {x : V} {xs : List V} {ys : List Value} (h : RVs w ρ R (x :: xs) ys) : ∃ y ys', ys = y :: ys' ∧ RV w ρ R x y ∧ RVs w ρ R xs ys' := by
 cases ys with
 | nil => have := h.1; simp at this
 | cons y ys' => exact ⟨y, ys', rfl, h.2 0 x y rfl rfl, ⟨by simpa using h.1, fun i x' y' hx hy => h.2 (i + 1) x' y' (by simpa using hx) (by simpa using hy)⟩⟩
theorem RVs.cons {x : V} {y : Value} {xs : List V} {ys : List Value} (h : RV w ρ R x y) (hs : RVs w ρ R xs ys) : RVs w ρ R (x :: xs) (y :: ys) := by
 refine ⟨by simp [hs.1], fun i x' y' hx hy => ?_⟩
 cases i with
 | zero => simp at hx hy; subst hx hy; exact h
 | succ i => simp at hx hy; exact hs.2 i x' y' hx hy
theorem zww (hm : Mem w ρ R) (hi : IdsOK R ids) (ho : ∀ b, out b → ρ.out b ∨ Own ρ R b) {mode : Bool} : ∀ {xs xs' : List G} {ys : List Value} {R1 : Tab}, (z3u mode xs).run R = some (xs', R1) → RGs w ρ R xs ys → (∀ r ∈ xs.flatMap (zuq mode), ∀ p ∈ ids, p.1 ≠ r) →
  R1 = R ∧ RGs w (zb3 ρ ids out) (zcg 0 ids 0 ids) (xs'.map (renG 0 ids)) ys
 | [], xs', ys, R1, h, hr, _ => by
  obtain ⟨rfl, rfl⟩ := Pr.ret_run h
  exact ⟨rfl, by simpa using hr.1, fun i x y hx => by simp at hx⟩
 | x :: xs, xs', ys, R1, h, hr, hap => by
  obtain ⟨y, ys', rfl, hx, hs⟩ := hr.tail
  obtain ⟨x1, R2, h1, h⟩ := Pr.bind_run h
  obtain ⟨xs1, R3, h2, h⟩ := Pr.bind_run h
  obtain ⟨rfl, rfl⟩ := Pr.ret_run h
  obtain ⟨e1, r1⟩ := z4l hm hi ho h1 hx (fun r hr p hp => hap r (by simp [hr]) p hp)
  rw [e1] at h2
  obtain ⟨e2, r2⟩ := zww hm hi ho h2 hs (fun r hr p hp => hap r (by simp at hr ⊢; exact .inr hr) p hp)
  exact ⟨e2, RGs.cons r1 r2⟩
theorem zauc (hm : Mem w ρ R) (hi : IdsOK R ids) (ho : ∀ b, out b → ρ.out b ∨ Own ρ R b) {x x' : B} {y : Value} {R1 : Tab} (h : (zaev x).run R = some (x', R1)) (hx : RB w ρ R x y) (hap : ∀ r ∈ zaew (.b x), ∀ p ∈ ids, p.1 ≠ r) :
  R1 = R ∧ RB w (zb3 ρ ids out) (zcg 0 ids 0 ids) (renB 0 ids x') y := by
 have old : ∀ {x : B}, (zzu false x).run R = some (x', R1) → RB w ρ R x y → (∀ r ∈ zup false x, ∀ p ∈ ids, p.1 ≠ r) → R1 = R ∧ RB w (zb3 ρ ids out) (zcg 0 ids 0 ids) (renB 0 ids x') y := fun h hx hap => zum hm hi ho h hx hap
 cases x with
 | pt r g off =>
  simp only [zaev] at h
  obtain ⟨rt, hrt, h⟩ := Pr.get_run h
  split at h
  ·rename_i hg
   cases hcs : toCs rt.cells with
   | none => rw [hcs] at h; exact Pr.fail_run h
   | some cs =>
    rw [hcs] at h
    obtain ⟨rfl, rfl⟩ := Pr.ret_run h
    obtain ⟨_, e, he, hf, hl⟩ := hx
    rw [hrt] at he; cases he
    obtain ⟨b, o, hρ, hy⟩ := (hl rt rfl).2 hg
    refine ⟨rfl, ⟨b, o + off, none⟩, hy, ⟨⟨hm.own_lt ⟨r, rt, o, hrt, hρ⟩, fun hw => ?_⟩, (fun h => by cases h)⟩, fun i c hc => ?_⟩
    ·obtain ⟨p, hp, o', hρ'⟩ := zwi hi hw
     exact hap r (by simp [zaew]) p hp (hm.dist p.1 r p.2 rt b o' o (hi.live p hp) hrt hρ' hρ)
    ·rw [List.getElem?_drop] at hc
     obtain ⟨z, hz, hzc⟩ := z0a hcs _ c hc
     obtain ⟨y', hy', hr'⟩ := zff hm hrt hρ off rt.cells.length i z (by
      rw [zoq, if_pos]
      ·exact hz
      ·have := (qh.1 hz).1; omega)
     exact ⟨y', hy', za6c (S := fun l => zbw l w (zb3 ρ ids out) (zcg 0 ids 0 ids)) (fun l b hb => zgg hi ho hb) hzc hr'⟩
  ·exact Pr.fail_run h
 | rf r g off len => exact old (x := .rf r g off len) h hx hap
 | v z => exact old (x := .v z) h hx hap
 | ro n cs ex lo => exact old (x := .ro n cs ex lo) h hx hap
 | clo f ps => exact old (x := .clo f ps) h hx hap
 | pr cs lo => exact old (x := .pr cs lo) h hx hap
 | dead => exact old (x := .dead) h hx hap
theorem zaud (hm : Mem w ρ R) (hi : IdsOK R ids) (ho : ∀ b, out b → ρ.out b ∨ Own ρ R b) {x x' : G} {y : Value} {R1 : Tab} (h : (zbc2 x).run R = some (x', R1)) (hx : RG w ρ R x y) (hap : ∀ r ∈ zaew x, ∀ p ∈ ids, p.1 ≠ r) :
  R1 = R ∧ RG w (zb3 ρ ids out) (zcg 0 ids 0 ids) (renG 0 ids x') y := by
 cases x with
 | b x =>
  obtain ⟨x1, R2, h1, h⟩ := Pr.bind_run h
  obtain ⟨rfl, rfl⟩ := Pr.ret_run h
  exact zauc hm hi ho h1 hx hap
 | ag xs =>
  obtain ⟨x1, R2, h1, h⟩ := Pr.bind_run h
  obtain ⟨rfl, rfl⟩ := Pr.ret_run h
  obtain ⟨ys, rfl, hs⟩ := hx
  obtain ⟨rfl, r⟩ := zol hm hi ho h1 hs hap
  exact ⟨rfl, ys, rfl, r⟩
theorem zwu (hm : Mem w ρ R) (hi : IdsOK R ids) (ho : ∀ b, out b → ρ.out b ∨ Own ρ R b) : ∀ {xs xs' : List G} {ys : List Value} {R1 : Tab}, (z3f xs).run R = some (xs', R1) → RGs w ρ R xs ys → (∀ r ∈ xs.flatMap zaew, ∀ p ∈ ids, p.1 ≠ r) →
  R1 = R ∧ RGs w (zb3 ρ ids out) (zcg 0 ids 0 ids) (xs'.map (renG 0 ids)) ys
 | [], xs', ys, R1, h, hr, _ => by
  obtain ⟨rfl, rfl⟩ := Pr.ret_run h
  exact ⟨rfl, by simpa using hr.1, fun i x y hx => by simp at hx⟩
 | x :: xs, xs', ys, R1, h, hr, hap => by
  obtain ⟨y, ys', rfl, hx, hs⟩ := hr.tail
  obtain ⟨x1, R2, h1, h⟩ := Pr.bind_run h
  obtain ⟨xs1, R3, h2, h⟩ := Pr.bind_run h
  obtain ⟨rfl, rfl⟩ := Pr.ret_run h
  obtain ⟨e1, r1⟩ := zaud hm hi ho h1 hx (fun r hr p hp => hap r (by simp [hr]) p hp)
  rw [e1] at h2
  obtain ⟨e2, r2⟩ := zwu hm hi ho h2 hs (fun r hr p hp => hap r (by simp at hr ⊢; exact .inr hr) p hp)
  exact ⟨e2, RGs.cons r1 r2⟩
theorem zaue (hm : Mem w ρ R) (hi : IdsOK R ids) (ho : ∀ b, out b → ρ.out b ∨ Own ρ R b) {mode : Bool} {x x' : V} {y : Value} {R1 : Tab} (h : (zbej mode x).run R = some (x', R1)) (hx : RV w ρ R x y) (hap : ∀ r ∈ zacs mode x, ∀ p ∈ ids, p.1 ≠ r) :
  R1 = R ∧ RV w (zb3 ρ ids out) (zcg 0 ids 0 ids) (renV 0 ids x') y := by
 cases x with
 | g x =>
  obtain ⟨x1, R2, h1, h⟩ := Pr.bind_run h
  obtain ⟨rfl, rfl⟩ := Pr.ret_run h
  exact z4l hm hi ho h1 hx hap
 | cl f caps =>
  obtain ⟨x1, R2, h1, h⟩ := Pr.bind_run h
  obtain ⟨rfl, rfl⟩ := Pr.ret_run h
  obtain ⟨ys, rfl, hs⟩ := hx
  cases mode with
  | true =>
   obtain ⟨rfl, r⟩ := zwu hm hi ho h1 hs hap
   exact ⟨rfl, ys, rfl, r⟩
  | false =>
   obtain ⟨rfl, r⟩ := zww hm hi ho h1 hs hap
   exact ⟨rfl, ys, rfl, r⟩
 | tp xs => exact Pr.fail_run h
theorem zul (hm : Mem w ρ R) (hi : IdsOK R ids) (ho : ∀ b, out b → ρ.out b ∨ Own ρ R b) : ∀ {ms : List Bool} {xs xs' : List V} {ys : List Value} {R1 : Tab}, (ztv ms xs).run R = some (xs', R1) → RVs w ρ R xs ys → (∀ r ∈ zg1 ms xs, ∀ p ∈ ids, p.1 ≠ r) →
  R1 = R ∧ RVs w (zb3 ρ ids out) (zcg 0 ids 0 ids) (xs'.map (renV 0 ids)) ys
 | ms, [], xs', ys, R1, h, hr, _ => by
  obtain ⟨rfl, rfl⟩ := Pr.ret_run h
  exact ⟨rfl, by simpa using hr.1, fun i x y hx => by simp at hx⟩
 | ms, x :: xs, xs', ys, R1, h, hr, hap => by
  obtain ⟨y, ys', rfl, hx, hs⟩ := hr.tail
  obtain ⟨x1, R2, h1, h⟩ := Pr.bind_run h
  obtain ⟨xs1, R3, h2, h⟩ := Pr.bind_run h
  obtain ⟨rfl, rfl⟩ := Pr.ret_run h
  obtain ⟨e1, r1⟩ := zaue hm hi ho h1 hx (fun r hr p hp => hap r (by simp only [zg1]; exact kg.2 (.inl hr)) p hp)
  rw [e1] at h2
  obtain ⟨e2, r2⟩ := zul hm hi ho h2 hs (fun r hr p hp => hap r (by simp only [zg1]; exact kg.2 (.inr hr)) p hp)
  exact ⟨e2, RVs.cons r1 r2⟩
theorem zatr : ∀ {ms : List Bool} {xs xs' : List V} {R R1 : Tab}, (ztv ms xs).run R = some (xs', R1) → R1 = R := by
 have hc : ∀ {x : B} {l : List B} {R R1 : Tab}, (content x).run R = some (l, R1) → R1 = R := by
  intro x l R R1 h
  cases x with
  | ro n cs ex lo => exact (Pr.ret_run h).2
  | rf r g off len =>
   obtain ⟨rt, _, h⟩ := Pr.get_run h
   split at h
   ·exact (Pr.ret_run h).2
   ·exact Pr.fail_run h
  | _ => exact Pr.fail_run h
 have hB : ∀ {mode : Bool} {x x' : B} {R R1 : Tab}, (zzu mode x).run R = some (x', R1) → R1 = R := by
  intro mode x x' R R1 h
  cases x with
  | rf r g off len =>
   simp only [zzu] at h
   split at h
   ·exact (Pr.ret_run h).2
   ·obtain ⟨l, R2, h1, h2⟩ := Pr.bind_run h
    obtain rfl := hc h1
    split at h2
    ·exact (Pr.ret_run h2).2
    ·exact Pr.fail_run h2
  | _ => exact (Pr.ret_run h).2
 have hBs : ∀ {mode : Bool} {xs xs' : List B} {R R1 : Tab}, (zwk mode xs).run R = some (xs', R1) → R1 = R := by
  intro mode xs
  induction xs with
  | nil => intro xs' R R1 h; exact (Pr.ret_run h).2
  | cons x xs ih =>
   intro xs' R R1 h
   obtain ⟨x1, R2, h1, h⟩ := Pr.bind_run h
   obtain ⟨xs1, R3, h2, h⟩ := Pr.bind_run h
   obtain ⟨rfl, rfl⟩ := Pr.ret_run h
   exact (ih h2).trans (hB h1)
 have hG : ∀ {mode : Bool} {x x' : G} {R R1 : Tab}, (zatp mode x).run R = some (x', R1) → R1 = R := by
  intro mode x x' R R1 h
  cases x with
  | b x =>
   obtain ⟨x1, R2, h1, h⟩ := Pr.bind_run h
   obtain ⟨rfl, rfl⟩ := Pr.ret_run h
   exact hB h1
  | ag xs =>
   obtain ⟨x1, R2, h1, h⟩ := Pr.bind_run h
   obtain ⟨rfl, rfl⟩ := Pr.ret_run h
   exact hBs h1
 have hGs : ∀ {mode : Bool} {xs xs' : List G} {R R1 : Tab}, (z3u mode xs).run R = some (xs', R1) → R1 = R := by
  intro mode xs
  induction xs with
  | nil => intro xs' R R1 h; exact (Pr.ret_run h).2
  | cons x xs ih =>
   intro xs' R R1 h
   obtain ⟨x1, R2, h1, h⟩ := Pr.bind_run h
   obtain ⟨xs1, R3, h2, h⟩ := Pr.bind_run h
   obtain ⟨rfl, rfl⟩ := Pr.ret_run h
   exact (ih h2).trans (hG h1)
 have hLs : ∀ {xs xs' : List G} {R R1 : Tab}, (z3f xs).run R = some (xs', R1) → R1 = R := by
  intro xs
  induction xs with
  | nil => intro xs' R R1 h; exact (Pr.ret_run h).2
  | cons x xs ih =>
   intro xs' R R1 h
   obtain ⟨x1, R2, h1, h⟩ := Pr.bind_run h
   obtain ⟨xs1, R3, h2, h⟩ := Pr.bind_run h
   obtain ⟨rfl, rfl⟩ := Pr.ret_run h
   refine (ih h2).trans ?_
   cases x with
   | ag ys =>
    obtain ⟨x2, R4, h3, h4⟩ := Pr.bind_run h1
    obtain ⟨rfl, rfl⟩ := Pr.ret_run h4
    exact hBs h3
   | b z =>
    obtain ⟨x2, R4, h3, h4⟩ := Pr.bind_run h1
    obtain ⟨rfl, rfl⟩ := Pr.ret_run h4
    cases z with
    | pt r g off =>
     obtain ⟨rt, _, h3⟩ := Pr.get_run h3
     split at h3
     ·split at h3
      ·exact (Pr.ret_run h3).2
      ·exact Pr.fail_run h3
     ·exact Pr.fail_run h3
    | rf r g off len => exact hB (mode := false) (x := .rf r g off len) h3
    | _ => exact (Pr.ret_run h3).2
 intro ms xs
 induction xs generalizing ms with
 | nil => intro xs' R R1 h; exact (Pr.ret_run h).2
 | cons x xs ih =>
  intro xs' R R1 h
  obtain ⟨x1, R2, h1, h⟩ := Pr.bind_run h
  obtain ⟨xs1, R3, h2, h⟩ := Pr.bind_run h
  obtain ⟨rfl, rfl⟩ := Pr.ret_run h
  refine (ih h2).trans ?_
  cases x with
  | g x =>
   obtain ⟨x2, R4, h3, h4⟩ := Pr.bind_run h1
   obtain ⟨rfl, rfl⟩ := Pr.ret_run h4
   exact hG h3
  | cl f caps =>
   obtain ⟨x2, R4, h3, h4⟩ := Pr.bind_run h1
   obtain ⟨rfl, rfl⟩ := Pr.ret_run h4
   split at h3
   ·exact hLs h3
   ·exact hGs h3
  | tp xs => exact Pr.fail_run h1
end
structure Back (ids : Ids) (base : Nat) (R : Tab) (R2 : Tab) (R3 : Tab) : Prop where
 len : ids.length ≤ R2.length
 all : AllLive R2
 old : ∀ (j : Nat) p rt, ids[j]? = some p → R2[j]? = some (.live rt) → R3[p.1]? = some (.live { zbp ids base rt with g := p.2.g + rt.g })
 new : ∀ (i : Nat) rt, R2[ids.length + i]? = some (.live rt) → R3[base + i]? = some (.live (zbp ids base rt)) ∧ R[base + i]? = some .fresh
 rest : ∀ r, (∀ p ∈ ids, p.1 ≠ r) → (∀ i, ids.length + i < R2.length → base + i ≠ r) → R3[r]? = R[r]?
end Go.Gm
