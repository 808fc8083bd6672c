import Derived.Test.YtpkbjabnchfgjaaGreatDoorWGm14
namespace Go.Gm
set_option linter.unusedSimpArgs false
set_option linter.unusedVariables false
set_option linter.unnecessarySimpa false
section
variable {w : World} {ρ : Rho} {R : Tab}
theorem zbca {w' : World} {ρ' : Rho} {R' : Tab} {f : B → B} {xs : List B} {ys : List Value} (hs : ∀ x y, x.retOK = true → RB w ρ R x y → RB w' ρ' R' (f x) y) (hx : xs.all B.retOK = true) (h : RBs w ρ R xs ys) : RBs w' ρ' R' (xs.map f) ys := by
 refine ⟨by simpa using h.1, fun i x y hxi hy => ?_⟩
 rw [qn] at hxi
 obtain ⟨z, hz, rfl⟩ := qf.1 hxi
 exact hs z y (qt.1 hx z (qp hz)) (h.2 i z y hz hy)
theorem za4p {w' : World} {ρ' : Rho} {R' : Tab} {ids : Ids} {base : Nat} (hs : ∀ x y, x.retOK = true → RB w ρ R x y → RB w' ρ' R' (subB ids base x) y) {x : G} {y : Value} (hx : x.retOK = true) (h : RG w ρ R x y) : RG w' ρ' R' (subG ids base x) y := by
 cases x with
 | b x => exact hs x y hx h
 | ag xs => obtain ⟨ys, rfl, h⟩ := h; exact ⟨ys, rfl, zbca hs hx h⟩
theorem zaoy {w' : World} {ρ' : Rho} {R' : Tab} {ids : Ids} {base : Nat} (hs : ∀ x y, x.retOK = true → RB w ρ R x y → RB w' ρ' R' (subB ids base x) y) {xs : List G} {ys : List Value} (hx : xs.all G.retOK = true) (h : RGs w ρ R xs ys) : RGs w' ρ' R' (xs.map (subG ids base)) ys := by
 refine ⟨by simpa using h.1, fun i x y hxi hy => ?_⟩
 rw [qn] at hxi
 obtain ⟨z, hz, rfl⟩ := qf.1 hxi
 exact za4p hs (qt.1 hx z (qp hz)) (h.2 i z y hz hy)
theorem zbi4 {w' : World} {ρ' : Rho} {R' : Tab} {ids : Ids} {base : Nat} (hs : ∀ x y, x.retOK = true → RB w ρ R x y → RB w' ρ' R' (subB ids base x) y) {x : V} {y : Value} (hx : x.retOK = true) (h : RV w ρ R x y) : RV w' ρ' R' (subV ids base x) y := by
 cases x with
 | g x => exact za4p hs hx h
 | cl f caps => obtain ⟨ys, rfl, h⟩ := h; exact ⟨ys, rfl, zaoy hs hx h⟩
 | tp xs => obtain ⟨ys, rfl, h⟩ := h; exact ⟨ys, rfl, zaoy hs hx h⟩
def zfw (P : Program) (f : FuncId) : Prop := ∃ fn, P.funcs[f]? = some fn ∧ fn.body.isSome = true ∧ (fn.name == "runtime.NumGoroutine") = false
theorem zafq {all ids : Ids} {k : Nat} : AllZ (zcg 0 all k ids) := fun j e he => by
 rw [zes] at he
 obtain ⟨p, _, rfl⟩ := qf.1 he
 exact ⟨_, rfl, by simp [zbn]⟩
theorem z4g (hm : Mem w ρ R) {x x' : B} {y : Value} {R' : Tab} (h : (zaru x).run R = some (x', R')) (hx : RB w ρ R x y) : Step w ρ R w ρ R' ∧ RB w ρ R' x' y := by
 cases x with
 | rf r g off len =>
  have h' : (zlp (.rf r g off len)).run R = some (x', R') := h
  obtain ⟨a, b, _⟩ := zwq hm h' hx
  exact ⟨a, b⟩
 | ro n cs ex lo =>
  obtain ⟨rfl, rfl⟩ := Pr.ret_run h
  obtain ⟨a, cap, e, hn, _, hc⟩ := hx
  exact ⟨.refl hm, a, cap, e, hn, (fun h => by cases h), hc⟩
 | v z => obtain ⟨rfl, rfl⟩ := Pr.ret_run h; exact ⟨.refl hm, hx⟩
 | pt r g off => obtain ⟨rfl, rfl⟩ := Pr.ret_run h; exact ⟨.refl hm, hx⟩
 | clo f ps => obtain ⟨rfl, rfl⟩ := Pr.ret_run h; exact ⟨.refl hm, hx⟩
 | pr cs lo => obtain ⟨rfl, rfl⟩ := Pr.ret_run h; exact ⟨.refl hm, hx⟩
 | dead => obtain ⟨rfl, rfl⟩ := Pr.ret_run h; exact ⟨.refl hm, hx⟩
theorem zwr : ∀ {xs xs' : List B} {ys : List Value} {R R' : Tab}, Mem w ρ R → (zabp xs).run R = some (xs', R') → RBs w ρ R xs ys → Step w ρ R w ρ R' ∧ RBs w ρ R' xs' ys
 | [], xs', ys, R, R', hm, h, hs => by
  obtain ⟨rfl, rfl⟩ := Pr.ret_run h
  exact ⟨.refl hm, hs⟩
 | x :: xs, xs', ys, R, R', hm, h, hs => by
  obtain ⟨y, ys', rfl, hx, hs⟩ := hs.tail
  obtain ⟨x1, R1, h1, h⟩ := Pr.bind_run h
  obtain ⟨xs1, R2, h2, h⟩ := Pr.bind_run h
  obtain ⟨rfl, rfl⟩ := Pr.ret_run h
  obtain ⟨s1, r1⟩ := z4g hm h1 hx
  obtain ⟨s2, r2⟩ := zwr s1.mem h2 (zsb s1.ext hs)
  exact ⟨s1.trans s2, RBs.cons (zif s2.ext r1) r2⟩
theorem z4h (hm : Mem w ρ R) {fl : Bool} {x x' : G} {y : Value} {R' : Tab} (h : (zaeq fl x).run R = some (x', R')) (hx : RG w ρ R x y) : Step w ρ R w ρ R' ∧ RG w ρ R' x' y := by
 unfold zaeq at h
 split at h
 ·cases x with
  | b x =>
   obtain ⟨x1, R1, h1, h2⟩ := Pr.bind_run h
   obtain ⟨rfl, rfl⟩ := Pr.ret_run h2
   exact z4g hm h1 hx
  | ag xs =>
   obtain ⟨x1, R1, h1, h2⟩ := Pr.bind_run h
   obtain ⟨rfl, rfl⟩ := Pr.ret_run h2
   obtain ⟨ys, rfl, hs⟩ := hx
   obtain ⟨st, hs'⟩ := zwr hm h1 hs
   exact ⟨st, ys, rfl, hs'⟩
 ·obtain ⟨rfl, rfl⟩ := Pr.ret_run h; exact ⟨.refl hm, hx⟩
theorem zws : ∀ {fl : List Bool} {xs xs' : List G} {ys : List Value} {R R' : Tab}, Mem w ρ R → (z2s fl xs).run R = some (xs', R') → RGs w ρ R xs ys → Step w ρ R w ρ R' ∧ RGs w ρ R' xs' ys
 | fl, [], xs', ys, R, R', hm, h, hs => by
  obtain ⟨rfl, rfl⟩ := Pr.ret_run h
  exact ⟨.refl hm, hs⟩
 | fl, x :: xs, xs', ys, R, R', hm, h, hs => by
  obtain ⟨y, ys', rfl, hx, hs⟩ := hs.tail
  obtain ⟨x1, R1, h1, h⟩ := Pr.bind_run h
  obtain ⟨xs1, R2, h2, h⟩ := Pr.bind_run h
  obtain ⟨rfl, rfl⟩ := Pr.ret_run h
  obtain ⟨s1, r1⟩ := z4h hm h1 hx
  obtain ⟨s2, r2⟩ := zws s1.mem h2 (z62 s1.ext hs)
  exact ⟨s1.trans s2, RGs.cons (zaov s2.ext r1) r2⟩
theorem zaub (hm : Mem w ρ R) {fl : Bool} {x x' : V} {y : Value} {R' : Tab} (h : (zbcv fl x).run R = some (x', R')) (hx : RV w ρ R x y) : Step w ρ R w ρ R' ∧ RV w ρ R' x' y := by
 cases x with
 | g x =>
  obtain ⟨x1, R1, h1, h2⟩ := Pr.bind_run h
  obtain ⟨rfl, rfl⟩ := Pr.ret_run h2
  exact z4h hm h1 hx
 | cl f caps => obtain ⟨rfl, rfl⟩ := Pr.ret_run h; exact ⟨.refl hm, hx⟩
 | tp xs => obtain ⟨rfl, rfl⟩ := Pr.ret_run h; exact ⟨.refl hm, hx⟩
theorem zbcc {w' : World} {ρ' : Rho} {R' : Tab} (h : Ext w ρ R w' ρ' R') {xs : List V} {ys : List Value} (hr : RVs w ρ R xs ys) : RVs w' ρ' R' xs ys :=
 ⟨hr.1, fun i x y hx hy => zj2 h (hr.2 i x y hx hy)⟩
theorem zoi : ∀ {fl : List Bool} {xs xs' : List V} {ys : List Value} {R R' : Tab}, Mem w ρ R → (zv5 fl xs).run R = some (xs', R') → RVs w ρ R xs ys → Step w ρ R w ρ R' ∧ RVs w ρ R' xs' ys
 | fl, [], xs', ys, R, R', hm, h, hs => by
  obtain ⟨rfl, rfl⟩ := Pr.ret_run h
  exact ⟨.refl hm, hs⟩
 | fl, x :: xs, xs', ys, R, R', hm, h, hs => by
  obtain ⟨y, ys', rfl, hx, hs⟩ := hs.tail
  obtain ⟨x1, R1, h1, h⟩ := Pr.bind_run h
  obtain ⟨xs1, R2, h2, h⟩ := Pr.bind_run h
  obtain ⟨rfl, rfl⟩ := Pr.ret_run h
  obtain ⟨s1, r1⟩ := zaub hm h1 hx
  obtain ⟨s2, r2⟩ := zoi s1.mem h2 (zbcc s1.ext hs)
  exact ⟨s1.trans s2, RVs.cons (zj2 s2.ext r1) r2⟩
theorem zat8 {P : Program} {f : FuncId} {rec : FuncId → List V → Tab → Option (V × Tab)} (hrec : FnOK P f (rec f)) {gives mode : List Bool} {args : List V} {vs : List Value} {base : Nat} {v : V} {R' : Tab}
  (hm : Mem w ρ R) (hvs : RVs w ρ R args vs) (h : (z65 rec gives mode f args base).run R = some (v, R')) :
  zfw P f ∧ Calls P f vs.toArray w fun e w' => ∃ x ρ', e = .returned x ∧ Step w ρ R w' ρ' R' ∧ RV w' ρ' R' v x := by
 obtain ⟨args0, R0, h0, h00⟩ := Pr.bind_run h
 clear h
 obtain ⟨st0, hvs0⟩ := zoi hm h0 hvs
 obtain ⟨args', R1, h1, h4⟩ := Pr.bind_run h00
 clear h00
 obtain ⟨ids, R2, h2, h⟩ := Pr.bind_run h4
 clear h4
 obtain ⟨e2, hi, _⟩ := zv9 h2
 have e1 := zatr h1
 subst e1
 subst e2
 have hm' := st0.mem
 split at h
 ·rename_i hap
  have hap' : ∀ r ∈ zg1 mode args0, ∀ p ∈ ids, p.1 ≠ r := by
   intro r hr p hp e
   have := qt.1 hap r hr
   simp only [Bool.not_eq_true', List.any_eq_false] at this
   exact this p hp (by simp [e])
  have hpass := (zul (out := outC ρ R2 ids) hm' hi zatl h1 hvs0 hap').2
  split at h
  ·rename_i res Rc hr
   split at h
   ·rename_i hok
    rw [qo] at hok
    obtain ⟨u, R3, h3, h⟩ := Pr.bind_run h
    obtain ⟨rfl, rfl⟩ := Pr.ret_run h
    obtain ⟨b1, b2, b3, b4, b5⟩ := z1s h3 hi
    have hb : Back ids base R2 Rc R' := ⟨b1, b2, b3, b4, b5⟩
    obtain ⟨hf, hcall⟩ := hrec _ _ _ _ hr
    refine ⟨hf, Calls.mono (hcall w (zb3 ρ ids (outC ρ R2 ids)) vs (zaou hm' hi zatl (za1r hm' hi)) zafq hpass) ?_⟩
    rintro e w' ⟨x, ρ2, rfl, st, hx⟩
    have hret : ∀ (j : Nat) rt, Rc[j]? = some (.live rt) → ∀ x ∈ rt.cells, x.retOK = true := by
     intro j rt hj
     have := qt.1 hok.2 _ (qp hj)
     simp only [Ent.retOK] at this
     exact fun x hx => qt.1 this x hx
    obtain ⟨st3, hs⟩ := Step.back hm' hi st hb hret
    exact ⟨x, _, rfl, st0.trans st3, zbi4 hs hok.1 hx⟩
   ·exact Pr.fail_run h
  ·exact Pr.fail_run h
 ·exact Pr.fail_run h
structure SlotsOK (N : Nat) (w : World) (ρ : Rho) (R : Tab) (s : FS) (a : Act) : Prop where
 defers : a.defers = []
 size : N ≤ a.tmps.size
 val : ∀ t v, s t = some v → RV w ρ R v (a.tmps.getD t undef)
theorem SlotsOK.ext {N : Nat} {w' : World} {ρ' : Rho} {R' : Tab} {s : FS} {a : Act} (h : SlotsOK N w ρ R s a) (he : Ext w ρ R w' ρ' R') : SlotsOK N w' ρ' R' s a :=
 ⟨h.defers, h.size, fun t v hv => zj2 he (h.val t v hv)⟩
theorem SlotsOK.put {N : Nat} {s : FS} {a : Act} (h : SlotsOK N w ρ R s a) {dst : Option Tmp} {v : V} {x : Value} (hd : ∀ d, dst = some d → d < N) (hv : RV w ρ R v x) : SlotsOK N w ρ R (putF s dst v) (a.put dst x) := by
 cases dst with
 | none => exact h
 | some d =>
  have hlt : d < a.tmps.size := Nat.lt_of_lt_of_le (hd d rfl) h.size
  refine ⟨h.defers, by simpa [Act.put] using h.size, fun t v' hv' => ?_⟩
  simp only [putF] at hv'
  simp only [Act.put]
  split at hv'
  ·rename_i e; subst e; cases hv'
   simp [Array.getD_eq_getD_getElem?, hlt]
   exact hv
  ·rename_i e
   have := h.val t v' hv'
   simpa [Array.getD_eq_getD_getElem?, Array.getElem?_setIfInBounds_ne e] using this
theorem SlotsOK.eval {N : Nat} {s : FS} {a : Act} (h : SlotsOK N w ρ R s a) : EvOK w ρ R (evOf s) a := zbcn h.val
section
variable {E : Env} {rec : FuncId → List V → Tab → Option (V × Tab)} {ops : Array Oper} {Q : Exit → Act → World → Prop}
theorem zp5 {ev : Operand → Option V} {a : Act} (hev : EvOK w ρ R ev a) : ∀ {l : List Operand} {xs : List V}, zj5 ev l = some xs → RVs w ρ R xs (l.map a.eval)
 | [], xs, h => by simp only [zj5, qc] at h; subst h; exact ⟨rfl, fun i x y hx => by simp at hx⟩
 | x :: l, xs, h => by
  simp only [zj5] at h
  split at h
  ·rename_i y ys hy hys
   cases h
   exact RVs.cons (hev x y hy) (zp5 hev hys)
  ·cases h
theorem RVs.append {xs xs' : List V} {ys ys' : List Value} (h : RVs w ρ R xs ys) (h' : RVs w ρ R xs' ys') : RVs w ρ R (xs ++ xs') (ys ++ ys') := by
 induction xs generalizing ys with
 | nil =>
  have : ys = [] := List.length_eq_zero_iff.1 (by have := h.1; simpa using this.symm)
  subst this; exact h'
 | cons x xs ih =>
  obtain ⟨y, ys1, rfl, hx, hs⟩ := h.tail
  exact RVs.cons hx (ih hs)
theorem zax2 {gs : List G} {ys : List Value} (h : RGs w ρ R gs ys) : RVs w ρ R (gs.map .g) ys := by
 refine ⟨by simpa using h.1, fun i x y hx hy => ?_⟩
 rw [qn] at hx
 obtain ⟨z, hz, rfl⟩ := qf.1 hx
 exact h.2 i z y hz hy
theorem z4c {P : Program} {f : FuncId} {args : Array Value} (hf : zfw P f) : (callFunc f args).run P w = .ok (.enter f args) w := by
 obtain ⟨fn, h1, h2, h3⟩ := hf
 have h4 : fn.body.isNone = false := by cases hb : fn.body <;> simp [hb] at h2 ⊢
 simp only [callFunc, Sem.run_bind, run_program, Result.andThen_ok, h1, h3, h4, qj, if_false, Sem.run_pure]
theorem zbjx {o : Oper} {s : FS} {a : Act} {base N : Nat} {v : V} {R' : Tab} {K : Act → World → Prop} (hrec : ∀ f, FnOK E.P f (rec f)) (hm : Mem w ρ R) (hs : SlotsOK N w ρ R s a) (hd : ∀ d, o.dst = some d → d < N)
  (h : (opP E rec o (evOf s) base).run R = some (v, R'))
  (hK : ∀ a' w' ρ', Step w ρ R w' ρ' R' → SlotsOK N w' ρ' R' (putF s o.dst v) a' → K a' w') : o.wp E.P a w K Q := by
 have go : ∀ {f : FuncId} {as : List V} {vs : List Value}, RVs w ρ R as vs → (execOp a.eval o).run E.P w = (callFunc f vs.toArray).run E.P w → (z65 rec (E.gives f) (E.modes f) f as base).run R = some (v, R') → o.wp E.P a w K Q := by
  intro f as vs has hex hcall
  obtain ⟨hf, hc⟩ := zat8 (hrec f) hm has hcall
  unfold Oper.wp
  rw [hex, z4c hf, Oper.upon_enter]
  refine Calls.mono hc ?_
  rintro e w' ⟨x, ρ', rfl, st, hx⟩
  exact hK _ w' ρ' st ((hs.ext st.ext).put hd hx)
 unfold opP at h
 split at h
 ·rename_i x args argTypes heq
  have hexec : execOp a.eval o = (do let d ← resolve a.eval { callee := .value x, args, argTypes } o.type; invoke d.target d.args) := by
   rw [zax _ o _ heq]; rfl
  split at h
  ·rename_i f first caps as hx has
   split at h
   ·rename_i hc
    have hxv : a.eval x = .func (.func f) first caps := hs.eval x _ hx
    have hcaps : caps = #[] := kv hc.2
    have hfirst : first = #[] := kv hc.1
    refine go (zp5 hs.eval has) ?_ h
    rw [hexec]
    simp [resolve, hxv, Deferred.ofValue, invoke, hcaps, hfirst, ← Array.toList_map]
   ·exact Pr.fail_run h
  ·rename_i f caps as hx has
   obtain ⟨ys, hv, hcs⟩ := hs.eval x _ hx
   refine go ((zp5 hs.eval has).append (zax2 hcs)) ?_ h
   rw [hexec]
   have : (List.map a.eval args.toList ++ ys.toList).toArray = args.map a.eval ++ ys := by rw [← Array.toList_map]; simp
   rw [this]
   simp [resolve, hv, Deferred.ofValue, invoke]
  ·rename_i f ps as hx has
   obtain ⟨ys, hv, hl, hcs⟩ := hs.eval x _ hx
   have hrv : RVs w ρ R (ps.map fun p => .g (.b (.pt p.1 p.2.1 p.2.2))) ys.toList := by
    refine ⟨by simpa using hl, fun i z y hz hy => ?_⟩
    rw [qn] at hz
    obtain ⟨p, hp, rfl⟩ := qf.1 hz
    exact hcs i p y hp hy
   refine go ((zp5 hs.eval has).append hrv) ?_ h
   rw [hexec]
   have : (List.map a.eval args.toList ++ ys.toList).toArray = args.map a.eval ++ ys := by rw [← Array.toList_map]; simp
   rw [this]
   simp [resolve, hv, Deferred.ofValue, invoke]
  ·exact Pr.fail_run h
 ·obtain ⟨x, w', ρ', hy, st, hx⟩ := zbel hm hs.eval h
  unfold Oper.wp
  rcases hy with hy | ⟨hy, rfl⟩
  ·rw [hy, Oper.upon_value]; exact hK _ w' ρ' st ((hs.ext st.ext).put hd hx)
  ·rw [hy, Oper.upon_skip]; exact hK _ w' ρ' st ((hs.ext st.ext).put hd hx)
theorem zu0 {o : Oper} {s : FS} {a : Act} {N : Nat} {t : Bool} (hs : SlotsOK N w ρ R s a) (h : zc4 ops s o = some t) : Region.wanted o (yielded ops a.tmps) = t := by
 unfold zc4 at h
 unfold Region.wanted
 split at h
 ·rename_i hg; rw [hg]; cases h; rfl
 ·rename_i j want hg
  rw [hg]
  simp only []
  split at h
  ·rename_i b hb
   cases h
   obtain ⟨d, hd, hsd⟩ := qx.1 hb
   have hv : a.tmps.getD d undef = .bool b := hs.val d _ hsd
   have : a.tmps[d]? = some (.bool b) := by
    rw [Array.getD_eq_getD_getElem?] at hv
    cases hx : a.tmps[d]? with
    | none => rw [hx] at hv; simp [undef] at hv
    | some y => rw [hx] at hv; simp at hv; rw [hv]
   simp only [yielded, hd, qa, this]
   cases b <;> cases want <;> rfl
  ·rename_i ys hb
   cases h
   obtain ⟨d, hd, hsd⟩ := qx.1 hb
   have hv : a.tmps.getD d undef = .tuple ys := hs.val d _ hsd
   simp only [yielded, hd, qa]
   rw [Array.getD_eq_getD_getElem?] at hv
   cases hx : a.tmps[d]? with
   | none => cases want <;> rfl
   | some y => rw [hx] at hv; simp at hv; rw [hv]; cases want <;> rfl
  ·cases h
def zwg (N : Nat) (ops : Array Oper) : Bool := ops.all fun o => match o.dst with
 | some d => decide (d < N)
 | none => true
theorem ztt {N : Nat} (h : zwg N ops = true) {i : Nat} {o : Oper} (hi : ops[i]? = some o) : ∀ d, o.dst = some d → d < N := by
 intro d hd
 have := Array.all_eq_true'.1 h o (Array.mem_of_getElem? hi)
 rw [hd] at this
 simpa using this
theorem zacp {bs : Nat → Nat} {i N : Nat} {s s' : FS} {a : Act} {R' : Tab} {K : Act → World → Prop} (hrec : ∀ f, FnOK E.P f (rec f)) (hfit : zwg N ops = true) (hm : Mem w ρ R) (hs : SlotsOK N w ρ R s a)
  (h : zoo E rec ops bs i s R = some (s', R')) (hK : ∀ a' w' ρ', Step w ρ R w' ρ' R' → SlotsOK N w' ρ' R' s' a' → K a' w') : wpOp E.P ops Q i K a w := by
 unfold zoo at h
 unfold wpOp
 cases ho : ops[i]? with
 | none =>
  rw [ho] at h
  cases h
  exact hK a w ρ (.refl hm) hs
 | some o =>
  rw [ho] at h
  simp only at h ⊢
  cases hg : zc4 ops s o with
  | none => rw [hg] at h; cases h
  | some t =>
   rw [hg] at h
   rw [zu0 hs hg]
   cases t with
   | false =>
    cases h
    simp only [qj, if_false]
    exact hK _ w ρ (.refl hm) (hs.put (ztt hfit ho) rfl)
   | true =>
    simp only [if_true] at h ⊢
    left
    split at h
    ·rename_i v R2 hrun
     cases h
     exact zbjx hrec hm hs (ztt hfit ho) hrun hK
    ·cases h
theorem zmo {bs : Nat → Nat} {FP : Nat → List Nat × List Nat} {N : Nat} {KF : FS → Tab → Prop} (hrec : ∀ f, FnOK E.P f (rec f)) (hfit : zwg N ops = true) :
  ∀ {n : Nat} {listed : Array Bool} {s : FS} {R : Tab} {a : Act} {w : World} {ρ : Rho}, anyA E rec ops bs FP KF n listed s R → Mem w ρ R → SlotsOK N w ρ R s a →
  (∀ s' R' a' w' ρ', KF s' R' → Step w ρ R w' ρ' R' → SlotsOK N w' ρ' R' s' a' → Q .normal a' w') → wpAny E.P .any ops Q n listed a w
 | 0, listed, s, R, a, w, ρ, h, hm, hs, hK => ⟨h.1, hK s R a w ρ h.2 (.refl hm) hs⟩
 | n + 1, listed, s, R, a, w, ρ, h, hm, hs, hK => by
  refine ⟨fun hr => hK s R a w ρ (h.1 hr) (.refl hm) hs, fun i hi => ?_⟩
  obtain ⟨s1, R1, h1, _, h2⟩ := h.2 i hi
  exact zacp hrec hfit hm hs h1 fun a' w' ρ' st hs' => zmo hrec hfit h2 st.mem hs' fun s2 R2 a2 w2 ρ2 hk st2 hs2 => hK s2 R2 a2 w2 ρ2 hk (st.trans st2) hs2
theorem zpq {N : Nat} (hrec : ∀ f, FnOK E.P f (rec f)) (hfit : zwg N ops = true) : ∀ {l : List (Oper × Nat)} {k : Nat} {s s' : zej} {R R' : Tab} {a : Act} {w : World} {ρ : Rho},
  (∀ j, (l[j]?).map (·.1) = ops[k + j]?) → zgs E rec ops l s R = some (s', R') → Mem w ρ R → SlotsOK N w ρ R (look s) a →
  (∀ a' w' ρ', Step w ρ R w' ρ' R' → SlotsOK N w' ρ' R' (look s') a' → Q .normal a' w') → wpOps E.P ops Q (List.range' k l.length) a w
 | [], k, s, s', R, R', a, w, ρ, hl, h, hm, hs, hK => by
  simp only [zgs, qc, qr] at h
  obtain ⟨rfl, rfl⟩ := h
  exact hK a w ρ (.refl hm) hs
 | (o, base) :: l, k, s, s', R, R', a, w, ρ, hl, h, hm, hs, hK => by
  have ho : ops[k]? = some o := by have := hl 0; simpa using this.symm
  have hl' : ∀ j, (l[j]?).map (·.1) = ops[(k + 1) + j]? := fun j => by have := hl (j + 1); rw [show k + 1 + j = k + (j + 1) by omega]; simpa using this
  rw [qk, List.range'_succ, wpOps_cons]
  have key : ∃ s1 R1, zoo E rec ops (fun _ => base) k (look s) R = some (look s1, R1) ∧ zgs E rec ops l s1 R1 = some (s', R') := by
   simp only [zgs] at h
   unfold zoo
   rw [ho]
   simp only
   cases hg : zc4 ops (look s) o with
   | none => rw [hg] at h; cases h
   | some t =>
    rw [hg] at h
    cases t with
    | false => exact ⟨_, _, by rw [zl3], h⟩
    | true =>
     simp only at h ⊢
     split at h
     ·rename_i v R1 hrun
      exact ⟨_, _, by rw [hrun, zl3], h⟩
     ·cases h
  obtain ⟨s1, R1, h1, h2⟩ := key
  exact zacp hrec hfit hm hs h1 fun a' w' ρ' st hs' => zpq hrec hfit hl' h2 st.mem hs' fun a2 w2 ρ2 st2 hs2 => hK a2 w2 ρ2 (st.trans st2) hs2
theorem zh1 : ∀ (l : List Oper) (n : Nat), (zbe n l).length = l.length
 | [], n => rfl
 | o :: os, n => by simp [zbe, zh1 os]
theorem zafh {N id : Nat} {draw : Bool} {s s' : zej} {R' : Tab} {a : Act} (hmix : E.P.follows .mixedOrders = true) (hrec : ∀ f, FnOK E.P f (rec f)) (hfit : zwg N ops = true) (hm : Mem w ρ R) (hs : SlotsOK N w ρ R (look s) a)
  (h : zlv E rec ops draw s R = some (s', R')) (hK : ∀ a' w' ρ', Step w ρ R w' ρ' R' → SlotsOK N w' ρ' R' (look s') a' → Q .normal a' w') : (Code.region id ops draw).wp E.P Q a w := by
 unfold zlv at h
 have st0 := Step.fresh hm (zn8 ops.toList)
 have hs0 := hs.ext st0.ext
 simp only [] at h
 split at h
 ·rename_i hdraw
  subst hdraw
  split at h
  ·rename_i hok
   rw [qo] at hok
   obtain ⟨FP, hany⟩ := zu3 hok.1 hok.2 h
   refine wp_region_any hmix ?_
   have st1 := Step.draw st0.mem { w with drawn := w.drawn + 1 } rfl rfl rfl
   refine zmo hrec hfit hany st1.mem (hs0.ext st1.ext) ?_
   rintro s2 R2 a2 w2 ρ2 ⟨rfl, rfl⟩ st2 hs2
   exact hK a2 w2 ρ2 ((st0.trans st1).trans st2) hs2
  ·cases h
 ·rename_i hdraw
  have : draw = false := by simpa using hdraw
  subst this
  refine wp_region ?_
  have hl : ∀ (n : Nat) (j : Nat), ((zbe n ops.toList)[j]?).map (·.1) = ops[0 + j]? := fun n j => by
   rw [zge]; simp only [Option.map_map, Nat.zero_add]; cases h : ops[j]? <;> simp [h]
  have := zpq (Q := Q) hrec hfit (hl _) h st0.mem hs0 fun a2 w2 ρ2 st2 hs2 => hK a2 w2 ρ2 (st0.trans st2) hs2
  rw [zh1, Array.length_toList] at this
  rw [List.range_eq_range']
  exact this
end
end
end Go.Gm
