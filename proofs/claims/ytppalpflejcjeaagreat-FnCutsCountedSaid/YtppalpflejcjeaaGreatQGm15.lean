import Derived.Test.YtppalpflejcjeaaGreatQGm14
namespace Go.Gm
set_option linter.unusedSimpArgs false
set_option linter.unusedVariables false
set_option linter.unnecessarySimpa false
section
variable {w : World} {ρ : Rho} {R : Tab}
theorem RBs_sub {w' : World} {ρ' : Rho} {R' : Tab} {f : B → B} {xs : List B} {ys : List Value} (hs : ∀ x y, x.retOK = true → RB w ρ R x y → RB w' ρ' R' (f x) y) (hx : xs.all B.retOK = true) (h : RBs w ρ R xs ys) : RBs w' ρ' R' (xs.map f) ys := by
 refine ⟨by simpa using h.1, fun i x y hxi hy => ?_⟩
 rw [List.getElem?_map] at hxi
 obtain ⟨z, hz, rfl⟩ := Option.map_eq_some_iff.1 hxi
 exact hs z y (List.all_eq_true.1 hx z (List.mem_of_getElem? hz)) (h.2 i z y hz hy)
theorem RG_sub {w' : World} {ρ' : Rho} {R' : Tab} {ids : Ids} {base : Nat} (hs : ∀ x y, x.retOK = true → RB w ρ R x y → RB w' ρ' R' (subB ids base x) y) {x : G} {y : Value} (hx : x.retOK = true) (h : RG w ρ R x y) : RG w' ρ' R' (subG ids base x) y := by
 cases x with
 | b x => exact hs x y hx h
 | ag xs => obtain ⟨ys, rfl, h⟩ := h; exact ⟨ys, rfl, RBs_sub hs hx h⟩
theorem RGs_sub {w' : World} {ρ' : Rho} {R' : Tab} {ids : Ids} {base : Nat} (hs : ∀ x y, x.retOK = true → RB w ρ R x y → RB w' ρ' R' (subB ids base x) y) {xs : List G} {ys : List Value} (hx : xs.all G.retOK = true) (h : RGs w ρ R xs ys) : RGs w' ρ' R' (xs.map (subG ids base)) ys := by
 refine ⟨by simpa using h.1, fun i x y hxi hy => ?_⟩
 rw [List.getElem?_map] at hxi
 obtain ⟨z, hz, rfl⟩ := Option.map_eq_some_iff.1 hxi
 exact RG_sub hs (List.all_eq_true.1 hx z (List.mem_of_getElem? hz)) (h.2 i z y hz hy)
theorem RV_sub {w' : World} {ρ' : Rho} {R' : Tab} {ids : Ids} {base : Nat} (hs : ∀ x y, x.retOK = true → RB w ρ R x y → RB w' ρ' R' (subB ids base x) y) {x : V} {y : Value} (hx : x.retOK = true) (h : RV w ρ R x y) : RV w' ρ' R' (subV ids base x) y := by
 cases x with
 | g x => exact RG_sub hs hx h
 | cl f caps => obtain ⟨ys, rfl, h⟩ := h; exact ⟨ys, rfl, RGs_sub hs hx h⟩
 | tp xs => obtain ⟨ys, rfl, h⟩ := h; exact ⟨ys, rfl, RGs_sub hs hx h⟩
def FnFacts (P : Program) (f : FuncId) : Prop := ∃ fn, P.funcs[f]? = some fn ∧ fn.body.isSome = true ∧ (fn.name == "runtime.NumGoroutine") = false
theorem tabOf_live {all ids : Ids} {k : Nat} : AllZ (tabOf 0 all k ids) := fun j e he => by
 rw [tabOf_get] at he
 obtain ⟨p, _, rfl⟩ := Option.map_eq_some_iff.1 he
 exact ⟨_, rfl, by simp [renRoot]⟩
theorem sim_giveB (hm : Mem w ρ R) {x x' : B} {y : Value} {R' : Tab} (h : (giveB x).run R = some (x', R')) (hx : RB w ρ R x y) : Step w ρ R w ρ R' ∧ RB w ρ R' x' y := by
 cases x with
 | rf r g off len =>
  have h' : (closeB (.rf r g off len)).run R = some (x', R') := h
  obtain ⟨a, b, _⟩ := sim_closeB hm h' hx
  exact ⟨a, b⟩
 | ro n cs ex lo =>
  obtain ⟨rfl, rfl⟩ := Pr.ret_run h
  obtain ⟨a, cap, e, hn, _, hc⟩ := hx
  exact ⟨.refl hm, a, cap, e, hn, (fun h => by cases h), hc⟩
 | v z => obtain ⟨rfl, rfl⟩ := Pr.ret_run h; exact ⟨.refl hm, hx⟩
 | pt r g off => obtain ⟨rfl, rfl⟩ := Pr.ret_run h; exact ⟨.refl hm, hx⟩
 | clo f ps => obtain ⟨rfl, rfl⟩ := Pr.ret_run h; exact ⟨.refl hm, hx⟩
 | pr cs lo => obtain ⟨rfl, rfl⟩ := Pr.ret_run h; exact ⟨.refl hm, hx⟩
 | dead => obtain ⟨rfl, rfl⟩ := Pr.ret_run h; exact ⟨.refl hm, hx⟩
theorem sim_giveBs : ∀ {xs xs' : List B} {ys : List Value} {R R' : Tab}, Mem w ρ R → (giveBs xs).run R = some (xs', R') → RBs w ρ R xs ys → Step w ρ R w ρ R' ∧ RBs w ρ R' xs' ys
 | [], xs', ys, R, R', hm, h, hs => by
  obtain ⟨rfl, rfl⟩ := Pr.ret_run h
  exact ⟨.refl hm, hs⟩
 | x :: xs, xs', ys, R, R', hm, h, hs => by
  obtain ⟨y, ys', rfl, hx, hs⟩ := hs.tail
  obtain ⟨x1, R1, h1, h⟩ := Pr.bind_run h
  obtain ⟨xs1, R2, h2, h⟩ := Pr.bind_run h
  obtain ⟨rfl, rfl⟩ := Pr.ret_run h
  obtain ⟨s1, r1⟩ := sim_giveB hm h1 hx
  obtain ⟨s2, r2⟩ := sim_giveBs s1.mem h2 (RBs_ext s1.ext hs)
  exact ⟨s1.trans s2, RBs.cons (RB_ext s2.ext r1) r2⟩
theorem sim_giveG (hm : Mem w ρ R) {fl : Bool} {x x' : G} {y : Value} {R' : Tab} (h : (giveG fl x).run R = some (x', R')) (hx : RG w ρ R x y) : Step w ρ R w ρ R' ∧ RG w ρ R' x' y := by
 unfold giveG at h
 split at h
 ·cases x with
  | b x =>
   obtain ⟨x1, R1, h1, h2⟩ := Pr.bind_run h
   obtain ⟨rfl, rfl⟩ := Pr.ret_run h2
   exact sim_giveB hm h1 hx
  | ag xs =>
   obtain ⟨x1, R1, h1, h2⟩ := Pr.bind_run h
   obtain ⟨rfl, rfl⟩ := Pr.ret_run h2
   obtain ⟨ys, rfl, hs⟩ := hx
   obtain ⟨st, hs'⟩ := sim_giveBs hm h1 hs
   exact ⟨st, ys, rfl, hs'⟩
 ·obtain ⟨rfl, rfl⟩ := Pr.ret_run h; exact ⟨.refl hm, hx⟩
theorem sim_giveGs : ∀ {fl : List Bool} {xs xs' : List G} {ys : List Value} {R R' : Tab}, Mem w ρ R → (giveGs fl xs).run R = some (xs', R') → RGs w ρ R xs ys → Step w ρ R w ρ R' ∧ RGs w ρ R' xs' ys
 | fl, [], xs', ys, R, R', hm, h, hs => by
  obtain ⟨rfl, rfl⟩ := Pr.ret_run h
  exact ⟨.refl hm, hs⟩
 | fl, x :: xs, xs', ys, R, R', hm, h, hs => by
  obtain ⟨y, ys', rfl, hx, hs⟩ := hs.tail
  obtain ⟨x1, R1, h1, h⟩ := Pr.bind_run h
  obtain ⟨xs1, R2, h2, h⟩ := Pr.bind_run h
  obtain ⟨rfl, rfl⟩ := Pr.ret_run h
  obtain ⟨s1, r1⟩ := sim_giveG hm h1 hx
  obtain ⟨s2, r2⟩ := sim_giveGs s1.mem h2 (RGs_ext s1.ext hs)
  exact ⟨s1.trans s2, RGs.cons (RG_ext s2.ext r1) r2⟩
theorem sim_giveV (hm : Mem w ρ R) {fl : Bool} {x x' : V} {y : Value} {R' : Tab} (h : (giveV fl x).run R = some (x', R')) (hx : RV w ρ R x y) : Step w ρ R w ρ R' ∧ RV w ρ R' x' y := by
 cases x with
 | g x =>
  obtain ⟨x1, R1, h1, h2⟩ := Pr.bind_run h
  obtain ⟨rfl, rfl⟩ := Pr.ret_run h2
  exact sim_giveG hm h1 hx
 | cl f caps => obtain ⟨rfl, rfl⟩ := Pr.ret_run h; exact ⟨.refl hm, hx⟩
 | tp xs => obtain ⟨rfl, rfl⟩ := Pr.ret_run h; exact ⟨.refl hm, hx⟩
theorem RVs_ext {w' : World} {ρ' : Rho} {R' : Tab} (h : Ext w ρ R w' ρ' R') {xs : List V} {ys : List Value} (hr : RVs w ρ R xs ys) : RVs w' ρ' R' xs ys :=
 ⟨hr.1, fun i x y hx hy => RV_ext h (hr.2 i x y hx hy)⟩
theorem sim_giveVs : ∀ {fl : List Bool} {xs xs' : List V} {ys : List Value} {R R' : Tab}, Mem w ρ R → (giveVs fl xs).run R = some (xs', R') → RVs w ρ R xs ys → Step w ρ R w ρ R' ∧ RVs w ρ R' xs' ys
 | fl, [], xs', ys, R, R', hm, h, hs => by
  obtain ⟨rfl, rfl⟩ := Pr.ret_run h
  exact ⟨.refl hm, hs⟩
 | fl, x :: xs, xs', ys, R, R', hm, h, hs => by
  obtain ⟨y, ys', rfl, hx, hs⟩ := hs.tail
  obtain ⟨x1, R1, h1, h⟩ := Pr.bind_run h
  obtain ⟨xs1, R2, h2, h⟩ := Pr.bind_run h
  obtain ⟨rfl, rfl⟩ := Pr.ret_run h
  obtain ⟨s1, r1⟩ := sim_giveV hm h1 hx
  obtain ⟨s2, r2⟩ := sim_giveVs s1.mem h2 (RVs_ext s1.ext hs)
  exact ⟨s1.trans s2, RVs.cons (RV_ext s2.ext r1) r2⟩
theorem sim_callP {P : Program} {f : FuncId} {rec : FuncId → List V → Tab → Option (V × Tab)} (hrec : FnOK P f (rec f)) {gives mode : List Bool} {args : List V} {vs : List Value} {base : Nat} {v : V} {R' : Tab}
  (hm : Mem w ρ R) (hvs : RVs w ρ R args vs) (h : (callP rec gives mode f args base).run R = some (v, R')) :
  FnFacts P f ∧ Calls P f vs.toArray w fun e w' => ∃ x ρ', e = .returned x ∧ Step w ρ R w' ρ' R' ∧ RV w' ρ' R' v x := by
 obtain ⟨args0, R0, h0, h00⟩ := Pr.bind_run h
 clear h
 obtain ⟨st0, hvs0⟩ := sim_giveVs hm h0 hvs
 obtain ⟨args', R1, h1, h4⟩ := Pr.bind_run h00
 clear h00
 obtain ⟨ids, R2, h2, h⟩ := Pr.bind_run h4
 clear h4
 obtain ⟨e2, hi, _⟩ := idsOf_spec h2
 have e1 := pass_same h1
 subst e1
 subst e2
 have hm' := st0.mem
 split at h
 ·rename_i hap
  have hap' : ∀ r ∈ snapsAll mode args0, ∀ p ∈ ids, p.1 ≠ r := by
   intro r hr p hp e
   have := List.all_eq_true.1 hap r hr
   simp only [Bool.not_eq_true', List.any_eq_false] at this
   exact this p hp (by simp [e])
  have hpass := (sim_passAll (out := outC ρ R2 ids) hm' hi outC_or h1 hvs0 hap').2
  split at h
  ·rename_i res Rc hr
   split at h
   ·rename_i hok
    rw [Bool.and_eq_true] at hok
    obtain ⟨u, R3, h3, h⟩ := Pr.bind_run h
    obtain ⟨rfl, rfl⟩ := Pr.ret_run h
    obtain ⟨b1, b2, b3, b4, b5⟩ := back_spec h3 hi
    have hb : Back ids base R2 Rc R' := ⟨b1, b2, b3, b4, b5⟩
    obtain ⟨hf, hcall⟩ := hrec _ _ _ _ hr
    refine ⟨hf, Calls.mono (hcall w (rhoOf ρ ids (outC ρ R2 ids)) vs (Mem_ren hm' hi outC_or (outC_ids hm' hi)) tabOf_live hpass) ?_⟩
    rintro e w' ⟨x, ρ2, rfl, st, hx⟩
    have hret : ∀ (j : Nat) rt, Rc[j]? = some (.live rt) → ∀ x ∈ rt.cells, x.retOK = true := by
     intro j rt hj
     have := List.all_eq_true.1 hok.2 _ (List.mem_of_getElem? hj)
     simp only [Ent.retOK] at this
     exact fun x hx => List.all_eq_true.1 this x hx
    obtain ⟨st3, hs⟩ := Step.back hm' hi st hb hret
    exact ⟨x, _, rfl, st0.trans st3, RV_sub hs hok.1 hx⟩
   ·exact Pr.fail_run h
  ·exact Pr.fail_run h
 ·exact Pr.fail_run h
structure SlotsOK (N : Nat) (w : World) (ρ : Rho) (R : Tab) (s : FS) (a : Act) : Prop where
 defers : a.defers = []
 size : N ≤ a.tmps.size
 val : ∀ t v, s t = some v → RV w ρ R v (a.tmps.getD t undef)
theorem SlotsOK.ext {N : Nat} {w' : World} {ρ' : Rho} {R' : Tab} {s : FS} {a : Act} (h : SlotsOK N w ρ R s a) (he : Ext w ρ R w' ρ' R') : SlotsOK N w' ρ' R' s a :=
 ⟨h.defers, h.size, fun t v hv => RV_ext he (h.val t v hv)⟩
theorem SlotsOK.put {N : Nat} {s : FS} {a : Act} (h : SlotsOK N w ρ R s a) {dst : Option Tmp} {v : V} {x : Value} (hd : ∀ d, dst = some d → d < N) (hv : RV w ρ R v x) : SlotsOK N w ρ R (putF s dst v) (a.put dst x) := by
 cases dst with
 | none => exact h
 | some d =>
  have hlt : d < a.tmps.size := Nat.lt_of_lt_of_le (hd d rfl) h.size
  refine ⟨h.defers, by simpa [Act.put] using h.size, fun t v' hv' => ?_⟩
  simp only [putF] at hv'
  simp only [Act.put]
  split at hv'
  ·rename_i e; subst e; cases hv'
   simp [Array.getD_eq_getD_getElem?, hlt]
   exact hv
  ·rename_i e
   have := h.val t v' hv'
   simpa [Array.getD_eq_getD_getElem?, Array.getElem?_setIfInBounds_ne e] using this
theorem SlotsOK.eval {N : Nat} {s : FS} {a : Act} (h : SlotsOK N w ρ R s a) : EvOK w ρ R (evOf s) a := evOf_ok h.val
section
variable {E : Env} {rec : FuncId → List V → Tab → Option (V × Tab)} {ops : Array Oper} {Q : Exit → Act → World → Prop}
theorem evArgs_R {ev : Operand → Option V} {a : Act} (hev : EvOK w ρ R ev a) : ∀ {l : List Operand} {xs : List V}, evArgs ev l = some xs → RVs w ρ R xs (l.map a.eval)
 | [], xs, h => by simp only [evArgs, Option.some.injEq] at h; subst h; exact ⟨rfl, fun i x y hx => by simp at hx⟩
 | x :: l, xs, h => by
  simp only [evArgs] at h
  split at h
  ·rename_i y ys hy hys
   cases h
   exact RVs.cons (hev x y hy) (evArgs_R hev hys)
  ·cases h
theorem RVs.append {xs xs' : List V} {ys ys' : List Value} (h : RVs w ρ R xs ys) (h' : RVs w ρ R xs' ys') : RVs w ρ R (xs ++ xs') (ys ++ ys') := by
 induction xs generalizing ys with
 | nil =>
  have : ys = [] := List.length_eq_zero_iff.1 (by have := h.1; simpa using this.symm)
  subst this; exact h'
 | cons x xs ih =>
  obtain ⟨y, ys1, rfl, hx, hs⟩ := h.tail
  exact RVs.cons hx (ih hs)
theorem RVs_caps {gs : List G} {ys : List Value} (h : RGs w ρ R gs ys) : RVs w ρ R (gs.map .g) ys := by
 refine ⟨by simpa using h.1, fun i x y hx hy => ?_⟩
 rw [List.getElem?_map] at hx
 obtain ⟨z, hz, rfl⟩ := Option.map_eq_some_iff.1 hx
 exact h.2 i z y hz hy
theorem run_callFunc {P : Program} {f : FuncId} {args : Array Value} (hf : FnFacts P f) : (callFunc f args).run P w = .ok (.enter f args) w := by
 obtain ⟨fn, h1, h2, h3⟩ := hf
 have h4 : fn.body.isNone = false := by cases hb : fn.body <;> simp [hb] at h2 ⊢
 simp only [callFunc, Sem.run_bind, run_program, Result.andThen_ok, h1, h3, h4, Bool.false_eq_true, if_false, Sem.run_pure]
theorem sim_op {o : Oper} {s : FS} {a : Act} {base N : Nat} {v : V} {R' : Tab} {K : Act → World → Prop} (hrec : ∀ f, FnOK E.P f (rec f)) (hm : Mem w ρ R) (hs : SlotsOK N w ρ R s a) (hd : ∀ d, o.dst = some d → d < N)
  (h : (opP E rec o (evOf s) base).run R = some (v, R'))
  (hK : ∀ a' w' ρ', Step w ρ R w' ρ' R' → SlotsOK N w' ρ' R' (putF s o.dst v) a' → K a' w') : o.wp E.P a w K Q := by
 have go : ∀ {f : FuncId} {as : List V} {vs : List Value}, RVs w ρ R as vs → (execOp a.eval o).run E.P w = (callFunc f vs.toArray).run E.P w → (callP rec (E.gives f) (E.modes f) f as base).run R = some (v, R') → o.wp E.P a w K Q := by
  intro f as vs has hex hcall
  obtain ⟨hf, hc⟩ := sim_callP (hrec f) hm has hcall
  unfold Oper.wp
  rw [hex, run_callFunc hf, Oper.upon_enter]
  refine Calls.mono hc ?_
  rintro e w' ⟨x, ρ', rfl, st, hx⟩
  exact hK _ w' ρ' st ((hs.ext st.ext).put hd hx)
 unfold opP at h
 split at h
 ·rename_i x args argTypes heq
  have hexec : execOp a.eval o = (do let d ← resolve a.eval { callee := .value x, args, argTypes } o.type; invoke d.target d.args) := by
   rw [execOp_mk _ o _ heq]; rfl
  split at h
  ·rename_i f first caps as hx has
   split at h
   ·rename_i hc
    have hxv : a.eval x = .func (.func f) first caps := hs.eval x _ hx
    have hcaps : caps = #[] := Array.eq_empty_of_size_eq_zero hc.2
    have hfirst : first = #[] := Array.eq_empty_of_size_eq_zero hc.1
    refine go (evArgs_R hs.eval has) ?_ h
    rw [hexec]
    simp [resolve, hxv, Deferred.ofValue, invoke, hcaps, hfirst, ← Array.toList_map]
   ·exact Pr.fail_run h
  ·rename_i f caps as hx has
   obtain ⟨ys, hv, hcs⟩ := hs.eval x _ hx
   refine go ((evArgs_R hs.eval has).append (RVs_caps hcs)) ?_ h
   rw [hexec]
   have : (List.map a.eval args.toList ++ ys.toList).toArray = args.map a.eval ++ ys := by rw [← Array.toList_map]; simp
   rw [this]
   simp [resolve, hv, Deferred.ofValue, invoke]
  ·rename_i f ps as hx has
   obtain ⟨ys, hv, hl, hcs⟩ := hs.eval x _ hx
   have hrv : RVs w ρ R (ps.map fun p => .g (.b (.pt p.1 p.2.1 p.2.2))) ys.toList := by
    refine ⟨by simpa using hl, fun i z y hz hy => ?_⟩
    rw [List.getElem?_map] at hz
    obtain ⟨p, hp, rfl⟩ := Option.map_eq_some_iff.1 hz
    exact hcs i p y hp hy
   refine go ((evArgs_R hs.eval has).append hrv) ?_ h
   rw [hexec]
   have : (List.map a.eval args.toList ++ ys.toList).toArray = args.map a.eval ++ ys := by rw [← Array.toList_map]; simp
   rw [this]
   simp [resolve, hv, Deferred.ofValue, invoke]
  ·exact Pr.fail_run h
 ·obtain ⟨x, w', ρ', hy, st, hx⟩ := sim_act hm hs.eval h
  unfold Oper.wp
  rcases hy with hy | ⟨hy, rfl⟩
  ·rw [hy, Oper.upon_value]; exact hK _ w' ρ' st ((hs.ext st.ext).put hd hx)
  ·rw [hy, Oper.upon_skip]; exact hK _ w' ρ' st ((hs.ext st.ext).put hd hx)
theorem wanted_of_guard {o : Oper} {s : FS} {a : Act} {N : Nat} {t : Bool} (hs : SlotsOK N w ρ R s a) (h : guardOf ops s o = some t) : Region.wanted o (yielded ops a.tmps) = t := by
 unfold guardOf at h
 unfold Region.wanted
 split at h
 ·rename_i hg; rw [hg]; cases h; rfl
 ·rename_i j want hg
  rw [hg]
  simp only []
  split at h
  ·rename_i b hb
   cases h
   obtain ⟨d, hd, hsd⟩ := Option.bind_eq_some_iff.1 hb
   have hv : a.tmps.getD d undef = .bool b := hs.val d _ hsd
   have : a.tmps[d]? = some (.bool b) := by
    rw [Array.getD_eq_getD_getElem?] at hv
    cases hx : a.tmps[d]? with
    | none => rw [hx] at hv; simp [undef] at hv
    | some y => rw [hx] at hv; simp at hv; rw [hv]
   simp only [yielded, hd, Option.bind_some, this]
   cases b <;> cases want <;> rfl
  ·rename_i ys hb
   cases h
   obtain ⟨d, hd, hsd⟩ := Option.bind_eq_some_iff.1 hb
   have hv : a.tmps.getD d undef = .tuple ys := hs.val d _ hsd
   simp only [yielded, hd, Option.bind_some]
   rw [Array.getD_eq_getD_getElem?] at hv
   cases hx : a.tmps[d]? with
   | none => cases want <;> rfl
   | some y => rw [hx] at hv; simp at hv; rw [hv]; cases want <;> rfl
  ·cases h
def opsFit (N : Nat) (ops : Array Oper) : Bool := ops.all fun o => match o.dst with
 | some d => decide (d < N)
 | none => true
theorem opsFit_spec {N : Nat} (h : opsFit N ops = true) {i : Nat} {o : Oper} (hi : ops[i]? = some o) : ∀ d, o.dst = some d → d < N := by
 intro d hd
 have := Array.all_eq_true'.1 h o (Array.mem_of_getElem? hi)
 rw [hd] at this
 simpa using this
theorem sim_step {bs : Nat → Nat} {i N : Nat} {s s' : FS} {a : Act} {R' : Tab} {K : Act → World → Prop} (hrec : ∀ f, FnOK E.P f (rec f)) (hfit : opsFit N ops = true) (hm : Mem w ρ R) (hs : SlotsOK N w ρ R s a)
  (h : stepI E rec ops bs i s R = some (s', R')) (hK : ∀ a' w' ρ', Step w ρ R w' ρ' R' → SlotsOK N w' ρ' R' s' a' → K a' w') : wpOp E.P ops Q i K a w := by
 unfold stepI at h
 unfold wpOp
 cases ho : ops[i]? with
 | none =>
  rw [ho] at h
  cases h
  exact hK a w ρ (.refl hm) hs
 | some o =>
  rw [ho] at h
  simp only at h ⊢
  cases hg : guardOf ops s o with
  | none => rw [hg] at h; cases h
  | some t =>
   rw [hg] at h
   rw [wanted_of_guard hs hg]
   cases t with
   | false =>
    cases h
    simp only [Bool.false_eq_true, if_false]
    exact hK _ w ρ (.refl hm) (hs.put (opsFit_spec hfit ho) rfl)
   | true =>
    simp only [if_true] at h ⊢
    left
    split at h
    ·rename_i v R2 hrun
     cases h
     exact sim_op hrec hm hs (opsFit_spec hfit ho) hrun hK
    ·cases h
theorem wpAny_of_anyA {bs : Nat → Nat} {FP : Nat → List Nat × List Nat} {N : Nat} {KF : FS → Tab → Prop} (hrec : ∀ f, FnOK E.P f (rec f)) (hfit : opsFit N ops = true) :
  ∀ {n : Nat} {listed : Array Bool} {s : FS} {R : Tab} {a : Act} {w : World} {ρ : Rho}, anyA E rec ops bs FP KF n listed s R → Mem w ρ R → SlotsOK N w ρ R s a →
  (∀ s' R' a' w' ρ', KF s' R' → Step w ρ R w' ρ' R' → SlotsOK N w' ρ' R' s' a' → Q .normal a' w') → wpAny E.P .any ops Q n listed a w
 | 0, listed, s, R, a, w, ρ, h, hm, hs, hK => ⟨h.1, hK s R a w ρ h.2 (.refl hm) hs⟩
 | n + 1, listed, s, R, a, w, ρ, h, hm, hs, hK => by
  refine ⟨fun hr => hK s R a w ρ (h.1 hr) (.refl hm) hs, fun i hi => ?_⟩
  obtain ⟨s1, R1, h1, _, h2⟩ := h.2 i hi
  exact sim_step hrec hfit hm hs h1 fun a' w' ρ' st hs' => wpAny_of_anyA hrec hfit h2 st.mem hs' fun s2 R2 a2 w2 ρ2 hk st2 hs2 => hK s2 R2 a2 w2 ρ2 hk (st.trans st2) hs2
theorem wpOps_of_run {N : Nat} (hrec : ∀ f, FnOK E.P f (rec f)) (hfit : opsFit N ops = true) : ∀ {l : List (Oper × Nat)} {k : Nat} {s s' : Slots} {R R' : Tab} {a : Act} {w : World} {ρ : Rho},
  (∀ j, (l[j]?).map (·.1) = ops[k + j]?) → runOps E rec ops l s R = some (s', R') → Mem w ρ R → SlotsOK N w ρ R (look s) a →
  (∀ a' w' ρ', Step w ρ R w' ρ' R' → SlotsOK N w' ρ' R' (look s') a' → Q .normal a' w') → wpOps E.P ops Q (List.range' k l.length) a w
 | [], k, s, s', R, R', a, w, ρ, hl, h, hm, hs, hK => by
  simp only [runOps, Option.some.injEq, Prod.mk.injEq] at h
  obtain ⟨rfl, rfl⟩ := h
  exact hK a w ρ (.refl hm) hs
 | (o, base) :: l, k, s, s', R, R', a, w, ρ, hl, h, hm, hs, hK => by
  have ho : ops[k]? = some o := by have := hl 0; simpa using this.symm
  have hl' : ∀ j, (l[j]?).map (·.1) = ops[(k + 1) + j]? := fun j => by have := hl (j + 1); rw [show k + 1 + j = k + (j + 1) by omega]; simpa using this
  rw [List.length_cons, List.range'_succ, wpOps_cons]
  have key : ∃ s1 R1, stepI E rec ops (fun _ => base) k (look s) R = some (look s1, R1) ∧ runOps E rec ops l s1 R1 = some (s', R') := by
   simp only [runOps] at h
   unfold stepI
   rw [ho]
   simp only
   cases hg : guardOf ops (look s) o with
   | none => rw [hg] at h; cases h
   | some t =>
    rw [hg] at h
    cases t with
    | false => exact ⟨_, _, by rw [look_putS], h⟩
    | true =>
     simp only at h ⊢
     split at h
     ·rename_i v R1 hrun
      exact ⟨_, _, by rw [hrun, look_putS], h⟩
     ·cases h
  obtain ⟨s1, R1, h1, h2⟩ := key
  exact sim_step hrec hfit hm hs h1 fun a' w' ρ' st hs' => wpOps_of_run hrec hfit hl' h2 st.mem hs' fun a2 w2 ρ2 st2 hs2 => hK a2 w2 ρ2 (st.trans st2) hs2
theorem withBases_length : ∀ (l : List Oper) (n : Nat), (withBases n l).length = l.length
 | [], n => rfl
 | o :: os, n => by simp [withBases, withBases_length os]
theorem sim_region {N id : Nat} {draw : Bool} {s s' : Slots} {R' : Tab} {a : Act} (hmix : E.P.follows .mixedOrders = true) (hrec : ∀ f, FnOK E.P f (rec f)) (hfit : opsFit N ops = true) (hm : Mem w ρ R) (hs : SlotsOK N w ρ R (look s) a)
  (h : evRegion E rec ops draw s R = some (s', R')) (hK : ∀ a' w' ρ', Step w ρ R w' ρ' R' → SlotsOK N w' ρ' R' (look s') a' → Q .normal a' w') : (Code.region id ops draw).wp E.P Q a w := by
 unfold evRegion at h
 have st0 := Step.fresh hm (needs ops.toList)
 have hs0 := hs.ext st0.ext
 simp only [] at h
 split at h
 ·rename_i hdraw
  subst hdraw
  split at h
  ·rename_i hok
   rw [Bool.and_eq_true] at hok
   obtain ⟨FP, hany⟩ := anyA_of_region hok.1 hok.2 h
   refine wp_region_any hmix ?_
   have st1 := Step.draw st0.mem { w with drawn := w.drawn + 1 } rfl rfl rfl
   refine wpAny_of_anyA hrec hfit hany st1.mem (hs0.ext st1.ext) ?_
   rintro s2 R2 a2 w2 ρ2 ⟨rfl, rfl⟩ st2 hs2
   exact hK a2 w2 ρ2 ((st0.trans st1).trans st2) hs2
  ·cases h
 ·rename_i hdraw
  have : draw = false := by simpa using hdraw
  subst this
  refine wp_region ?_
  have hl : ∀ (n : Nat) (j : Nat), ((withBases n ops.toList)[j]?).map (·.1) = ops[0 + j]? := fun n j => by
   rw [withBases_get]; simp only [Option.map_map, Nat.zero_add]; cases h : ops[j]? <;> simp [h]
  have := wpOps_of_run (Q := Q) hrec hfit (hl _) h st0.mem hs0 fun a2 w2 ρ2 st2 hs2 => hK a2 w2 ρ2 (st0.trans st2) hs2
  rw [withBases_length, Array.length_toList] at this
  rw [List.range_eq_range']
  exact this
end
end
end Go.Gm
