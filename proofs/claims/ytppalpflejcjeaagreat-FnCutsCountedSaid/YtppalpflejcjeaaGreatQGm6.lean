import Derived.Test.YtppalpflejcjeaaGreatQGm5
namespace Go.Gm
set_option linter.unusedSimpArgs false
set_option linter.unusedVariables false
theorem runPure_ok {α : Type} {P : Program} : ∀ (s : Sem α) {a : α}, runPure P s = some a → ∀ w, s.run P w = .ok a w
 | .pure b, a, h, w => by simp only [runPure, Option.some.injEq] at h; subst h; rfl
 | .program k, a, h, w => runPure_ok (k P) (by simpa only [runPure] using h) w
 | .mark m k, a, h, w => runPure_ok k (by simpa only [runPure] using h) w
 | .load .., a, h, w | .store .., a, h, w | .new .., a, h, w | .shape .., a, h, w | .freeze .., a, h, w | .frozen .., a, h, w | .getObj .., a, h, w | .setObj .., a, h, w | .choose .., a, h, w | .sys .., a, h, w | .halt .., a, h, w => by simp [runPure] at h
def Yields (P : Program) (o : Oper) (a : Act) (w : World) (x : Value) (w' : World) : Prop :=
 (execOp a.eval o).run P w = .ok (.value x) w' ∨ ((execOp a.eval o).run P w = .ok .skip w' ∧ x = undef)
section
variable {P : Program} {w : World} {ρ : Rho} {R : Tab}
theorem conc_B {x : B} {z y : Value} (h : x.conc = some z) (hr : RB w ρ R x y) : y = z := by
 cases x <;> simp only [B.conc] at h <;> first | (cases h; exact hr) | cases h
theorem conc_Bs {xs : List B} {zs ys : List Value} (h : concs xs = some zs) (hr : RBs w ρ R xs ys) : ys = zs := by
 obtain ⟨h1, h2⟩ := concs_get h
 apply List.ext_getElem?
 intro i
 cases hy : ys[i]? with
 | none =>
  have : ys.length ≤ i := List.getElem?_eq_none_iff.1 hy
  exact (List.getElem?_eq_none (by rw [← h1, hr.1]; exact this)).symm
 | some y =>
  have hlt : i < zs.length := by rw [← h1, hr.1]; exact (List.getElem?_eq_some_iff.1 hy).1
  have hx : xs[i]? = some (.v zs[i]) := by rw [h2, List.getElem?_map, List.getElem?_eq_getElem hlt]; rfl
  have : y = zs[i] := hr.2 i _ y hx hy
  rw [this, List.getElem?_eq_getElem hlt]
theorem conc_V {x : V} {z y : Value} (h : x.conc = some z) (hr : RV w ρ R x y) : y = z := by
 cases x with
 | g x =>
  cases x with
  | b x => exact conc_B h hr
  | ag xs =>
   obtain ⟨zs, hz, rfl⟩ := Option.map_eq_some_iff.1 h
   obtain ⟨ys, rfl, hs⟩ := hr
   have := conc_Bs hz hs
   subst this; simp
 | cl f caps => cases h
 | tp xs => cases h
theorem RBs_v (ys : List Value) : RBs w ρ R (ys.map B.v) ys := by
 refine ⟨by simp, fun i x y hx hy => ?_⟩
 rw [List.getElem?_map, hy] at hx
 simp only [Option.map_some, Option.some.injEq] at hx
 subst hx
 rfl
theorem RV_lift (y : Value) : RV w ρ R (lift y) y := by
 cases y <;> first | rfl | exact ⟨_, rfl, RBs_v _⟩
theorem allConc_spec {ev : Operand → Option V} : ∀ {l : List Operand}, allConc ev l = true → ∀ x ∈ l, ∃ v z, ev x = some v ∧ v.conc = some z
 | [], _, x, hx => by cases hx
 | y :: ys, h, x, hx => by
  simp only [allConc, Bool.and_eq_true] at h
  rcases List.mem_cons.1 hx with rfl | hx
  ·obtain ⟨z, hz⟩ := Option.isSome_iff_exists.1 h.1
   obtain ⟨v, hv, hc⟩ := Option.bind_eq_some_iff.1 hz
   exact ⟨v, z, hv, hc⟩
  ·exact allConc_spec h.2 x hx
def EvOK (w : World) (ρ : Rho) (R : Tab) (ev : Operand → Option V) (a : Act) : Prop := ∀ x v, ev x = some v → RV w ρ R v (a.eval x)
theorem sim_pureOp {o : Oper} {ev : Operand → Option V} {a : Act} {v : V} (h : pureOp P o ev = some v) (hev : EvOK w ρ R ev a) :
  ∃ x, (execOp a.eval o).run P w = .ok (.value x) w ∧ RV w ρ R v x := by
 unfold pureOp at h
 split at h
 ·rename_i hall
  split at h
  ·cases h
  ·rename_i hns
   have hcongr : execOp a.eval o = execOp (concOf ev) o := execOp_congr o (fun cs b hs => hns cs b hs) fun x hx => by
    obtain ⟨v, z, hv, hz⟩ := allConc_spec hall x (Array.mem_toList_iff.2 hx)
    rw [conc_V hz (hev x v hv)]
    simp [concOf, hv, hz]
   split at h
   ·rename_i y hy
    cases h
    exact ⟨y, by rw [hcongr]; exact runPure_ok _ hy w, RV_lift y⟩
   ·cases h
 ·cases h
theorem zcell_RB (y : Value) : RB w ρ R (zcell y) y := by
 unfold zcell
 split
 ·exact ⟨none, 0, rfl, Nat.le_refl _, fun _ => rfl, .inl rfl⟩
 ·rfl
theorem shut_RB {x : B} {y : Value} (h : RB w ρ R x y) : RB w ρ R x.shut y := by
 cases x <;> first
  | exact h
  | (obtain ⟨a, cap, e, hn, _, hc⟩ := h; exact ⟨a, cap, e, hn, (fun h => by cases h), hc⟩)
theorem zsh_RB (y : Value) : RB w ρ R (zsh y) y := shut_RB (zcell_RB y)
theorem zsh_closed (y : Value) : (zsh y).closed = true := by unfold zsh zcell; split <;> rfl
theorem RBs_shut {xs : List B} {ys : List Value} (h : RBs w ρ R xs ys) : RBs w ρ R (xs.map B.shut) ys := by
 refine ⟨by simpa using h.1, fun i x y hx hy => ?_⟩
 rw [List.getElem?_map] at hx
 obtain ⟨z, hz, rfl⟩ := Option.map_eq_some_iff.1 hx
 exact shut_RB (h.2 i z y hz hy)
theorem RBs_z (ys : List Value) : RBs w ρ R (ys.map zcell) ys := by
 refine ⟨by simp, fun i x y hx hy => ?_⟩
 rw [List.getElem?_map, hy] at hx
 simp only [Option.map_some, Option.some.injEq] at hx
 subst hx
 exact zcell_RB y
theorem ofConst_RV (y : Value) : RV w ρ R (ofConst y) y := by
 unfold ofConst
 split
 ·exact ⟨_, rfl, RBs_z _⟩
 ·exact zcell_RB y
theorem evOf_ok {s : Nat → Option V} {a : Act} (h : ∀ t v, s t = some v → RV w ρ R v (a.tmps.getD t undef)) : EvOK w ρ R (evOf s) a := by
 intro x v hx
 cases x with
 | tmp t => exact h t v hx
 | const y => simp only [evOf, Option.some.injEq] at hx; subst hx; exact ofConst_RV y
 | global g => cases hx
 | func f => simp only [evOf, Option.some.injEq] at hx; subst hx; rfl
theorem execOp_mk (ρ : Operand → Value) (o : Oper) (op : Op) (h : o.op = op) : execOp ρ o = execOp ρ { o with op := op } := by cases o; cases h; rfl
theorem cells_B {x : B} {y : Value} (hc : x.isCell = true) (hr : RB w ρ R x y) : y.oneCell' = true ∧ y.cells = #[y] := by
 cases x with
 | v z =>
  have : y = z := hr
  subst this
  cases y <;> simp [B.isCell] at hc <;> exact ⟨rfl, rfl⟩
 | ro n cs ex lo => obtain ⟨a, cap, rfl, _⟩ := hr; exact ⟨rfl, rfl⟩
 | rf r g off len => obtain ⟨⟨a, cap, rfl⟩, _⟩ := hr; exact ⟨rfl, rfl⟩
 | pt r g off => obtain ⟨⟨a, rfl⟩, _⟩ := hr; exact ⟨rfl, rfl⟩
 | pr cs lo => obtain ⟨ad, rfl, _⟩ := hr; exact ⟨rfl, rfl⟩
 | clo f ps => obtain ⟨ys, rfl, _⟩ := hr; exact ⟨rfl, rfl⟩
 | dead => simp [B.isCell] at hc
theorem ptsB_R : ∀ {caps : List G} {ps : List (Nat × Nat × Nat)} {ys : List Value}, ptsB caps = some ps → RGs w ρ R caps ys → RPs w ρ R ps ys
 | [], ps, ys, h, hr => by
  simp only [ptsB, Option.some.injEq] at h
  subst h
  exact ⟨hr.1, fun i p y hp => by simp at hp⟩
 | .b (.pt r g off) :: caps, ps, ys, h, ⟨hl, hr⟩ => by
  simp only [ptsB] at h
  obtain ⟨ps', hps, rfl⟩ := Option.map_eq_some_iff.1 h
  match ys, hl with
  | y :: ys, hl =>
   obtain ⟨h1, h2⟩ := ptsB_R (ys := ys) hps ⟨by simpa using hl, fun i x z hx hz => hr (i + 1) x z (by simpa using hx) (by simpa using hz)⟩
   refine ⟨by simp [h1], fun i p z hp hz => ?_⟩
   cases i with
   | zero =>
    simp only [List.getElem?_cons_zero, Option.some.injEq] at hp hz
    subst hp hz
    exact hr 0 _ y rfl rfl
   | succ i => exact h2 i p z (by simpa using hp) (by simpa using hz)
theorem cells_V {x : V} {y : Value} {cs : List B} (h : x.cells = some cs) (hr : RV w ρ R x y) : RBs w ρ R cs y.cells.toList ∧ ∀ z ∈ y.cells.toList, z.oneCell' = true := by
 cases x with
 | g x =>
  cases x with
  | b x =>
   simp only [V.cells] at h
   split at h
   ·rename_i hc
    cases h
    obtain ⟨h1, h2⟩ := cells_B hc hr
    rw [h2]
    exact ⟨RBs.cons hr .nil, fun z hz => by simp at hz; subst hz; exact h1⟩
   ·cases h
  | ag xs =>
   simp only [V.cells] at h
   split at h
   ·rename_i hc
    have hxs : cs = xs := (Option.some.inj h).symm
    subst hxs
    obtain ⟨ys, rfl, hs⟩ := hr
    refine ⟨hs, fun z hz => ?_⟩
    simp only [Value.cells] at hz
    obtain ⟨i, hi⟩ := List.getElem?_of_mem hz
    have hlt : i < cs.length := by rw [hs.1]; exact (List.getElem?_eq_some_iff.1 hi).1
    exact (cells_B (List.all_eq_true.1 hc _ (List.getElem_mem hlt)) (hs.2 i _ z (List.getElem?_eq_getElem hlt) hi)).1
   ·cases h
 | cl f caps =>
  simp only [V.cells] at h
  obtain ⟨ps, hps, rfl⟩ := Option.map_eq_some_iff.1 h
  obtain ⟨ys, rfl, hy⟩ := hr
  refine ⟨RBs.cons ⟨ys, rfl, ptsB_R hps hy⟩ .nil, fun z hz => ?_⟩
  have hz : z ∈ [Value.func (.func f) #[] ys] := hz
  rw [List.mem_singleton] at hz
  rw [hz]; rfl
 | tp xs => cases h
theorem sim_move {o : Oper} {ev : Operand → Option V} {a : Act} {base : Nat} {v : V} {R' : Tab} {t : TypeId} {x : Operand} (hm : Mem w ρ R) (hev : EvOK w ρ R ev a) (ho : ∀ w, (execOp a.eval o).run P w = .ok (.value (a.eval x)) w)
  (h : (actMove P t x (ev x) base).run R = some (v, R')) : ∃ y w' ρ', Yields P o a w y w' ∧ Step w ρ R w' ρ' R' ∧ RV w' ρ' R' v y := by
 have plain : ∀ {v R'}, (Pr.ofOpt (ev x)).run R = some (v, R') → ∃ y w' ρ', Yields P o a w y w' ∧ Step w ρ R w' ρ' R' ∧ RV w' ρ' R' v y := by
  intro v R' h
  obtain ⟨hv, rfl⟩ := Pr.ofOpt_run h
  exact ⟨_, w, ρ, .inl (ho w), .refl hm, hev x v hv⟩
 unfold actMove at h
 split at h
 ·split at h
  ·split at h
   ·rename_i e _ hes
    obtain ⟨hfr, h⟩ := Pr.mk_run h
    obtain ⟨rfl, rfl⟩ := Pr.ret_run h
    refine ⟨_, w, _, .inl (ho w), Step.make0 hm hfr rfl, ⟨none, 0, rfl⟩, .live ⟨0, P.cellsOf e, true, []⟩, set_self hfr, (fun h => by cases h), fun rt hrt => ?_⟩
    cases hrt
    exact ⟨Nat.le_refl _, fun _ => ⟨none, 0, rfl, Nat.le_refl _, hes, rfl, by simp, .inl rfl⟩⟩
   ·exact Pr.fail_run h
  ·exact plain h
 ·exact plain h
theorem run_newRow (e : TypeId) (cs : Array Value) : (newRow e cs).run P w = .ok ⟨w.heap.size, 0, none⟩ { w with heap := w.heap.push (.cells cs e) } := rfl
theorem sim_newVar (hm : Mem w ρ R) {base : Nat} {rt : Root} {t : TypeId} {cs : Array Value} (hfr : R[base]? = some .fresh) (hg : rt.g = 0) (hs : RBs w ρ R rt.cells cs.toList) (hrow : rt.row = true → ∀ x ∈ rt.cells, x.closed = true) :
  ∃ ρ', Step w ρ R { w with heap := w.heap.push (.cells cs t) } ρ' (R.set base (.live rt)) ∧ ρ' base = some (w.heap.size, 0) ∧
   RV { w with heap := w.heap.push (.cells cs t) } ρ' (R.set base (.live rt)) (.g (.b (.pt base 0 0))) (.pointer (some ⟨w.heap.size, 0, none⟩)) := by
 refine ⟨_, Step.make hm hfr (c := cs) (T := t) (fr := (0, 0)) rfl (Nat.le_of_eq hs.1) (fun i x hx => ?_) hrow rfl rfl rfl, upd_self _ _ _, ⟨_, rfl⟩, .live rt, set_self hfr, (fun h => by cases h), fun rt' h => ?_⟩
 ·have hlt : i < cs.toList.length := by rw [← hs.1]; exact (List.getElem?_eq_some_iff.1 hx).1
  refine ⟨cs.toList[i], by simp at hlt; simp [hlt], hs.2 i x _ hx (List.getElem?_eq_getElem hlt)⟩
 ·cases h
  exact ⟨by omega, fun _ => ⟨w.heap.size, 0, upd_self _ _ _, rfl⟩⟩
theorem info_of_zero {t : TypeId} {cs : List B} (h : zeroCells P t = some cs) : ∃ i z, P.info? t = some i ∧ i.zero = some z ∧ cs = z.cells.toList.map zcell := by
 unfold zeroCells at h
 obtain ⟨z, hz, rfl⟩ := Option.map_eq_some_iff.1 h
 obtain ⟨i, hi, hz⟩ := Option.bind_eq_some_iff.1 hz
 exact ⟨i, z, hi, hz, rfl⟩
theorem info_of_zeroRow {t : TypeId} {cs : List B} (h : zeroRow P t = some cs) : ∃ i z, P.info? t = some i ∧ i.zero = some z ∧ cs = z.cells.toList.map zsh := by
 unfold zeroRow at h
 obtain ⟨z, hz, rfl⟩ := Option.map_eq_some_iff.1 h
 obtain ⟨i, hi, hz⟩ := Option.bind_eq_some_iff.1 hz
 exact ⟨i, z, hi, hz, rfl⟩
theorem run_zero {t : TypeId} {i : TypeInfo} {z : Value} (hi : P.info? t = some i) (hz : i.zero = some z) : (zeroValue t).run P w = .ok z w := by
 simp only [zeroValue, Sem.run_bind, run_typeInfo w hi, Result.andThen_ok, hz]; rfl
theorem sim_alloc {o : Oper} {a : Act} {base : Nat} {v : V} {R' : Tab} {t : TypeId} {cs : List B} (hm : Mem w ρ R) (ho : o.op = .alloc t) (hz : zeroCells P t = some cs)
  (h : (Pr.mk base (rootOf P t cs) (.ret (.g (.b (.pt base 0 0)))) : Pr V).run R = some (v, R')) : ∃ y w' ρ', Yields P o a w y w' ∧ Step w ρ R w' ρ' R' ∧ RV w' ρ' R' v y := by
 obtain ⟨hfr, h⟩ := Pr.mk_run h
 obtain ⟨rfl, rfl⟩ := Pr.ret_run h
 obtain ⟨i, z, hi, hz', rfl⟩ := info_of_zero hz
 have hg : (rootOf P t (z.cells.toList.map zcell)).g = 0 := by unfold rootOf; split <;> rfl
 have hcells : RBs w ρ R (rootOf P t (z.cells.toList.map zcell)).cells z.cells.toList := by
  unfold rootOf; split
  ·exact RBs_shut (RBs_z _)
  ·exact RBs_z _
 obtain ⟨ρ', st, _, hv⟩ := sim_newVar (t := t) (cs := z.cells) hm hfr hg hcells (fun hrow x hx => by
  unfold rootOf at hrow hx
  split at hrow
  ·rename_i _ _ hu
   rw [hu] at hx
   simp only [List.map_map] at hx
   obtain ⟨y, _, rfl⟩ := List.mem_map.1 hx
   exact zsh_closed y
  ·cases hrow)
 refine ⟨_, _, ρ', .inl ?_, st, hv⟩
 rw [execOp_mk _ o _ ho]
 simp only [execOp, Instr.alloc, Sem.run_bind, run_zero hi hz', Result.andThen_ok, newVar, run_newRow, Sem.run_pure]
theorem sim_box {o : Oper} {ev : Operand → Option V} {a : Act} {base : Nat} {v : V} {R' : Tab} {t : TypeId} {x : Operand} {cs : List B} (hm : Mem w ρ R) (hev : EvOK w ρ R ev a) (ho : o.op = .box t x) (hx : (ev x).bind V.cells = some cs)
  (h : (Pr.mk base ⟨0, cs.length, false, cs⟩ (.ret (.g (.b (.pt base 0 0)))) : Pr V).run R = some (v, R')) : ∃ y w' ρ', Yields P o a w y w' ∧ Step w ρ R w' ρ' R' ∧ RV w' ρ' R' v y := by
 obtain ⟨hfr, h⟩ := Pr.mk_run h
 obtain ⟨rfl, rfl⟩ := Pr.ret_run h
 obtain ⟨vx, hvx, hcs⟩ := Option.bind_eq_some_iff.1 hx
 obtain ⟨h1, _⟩ := cells_V hcs (hev x vx hvx)
 obtain ⟨ρ', st, _, hv⟩ := sim_newVar (t := t) (cs := (a.eval x).cells) (rt := ⟨0, cs.length, false, cs⟩) hm hfr rfl h1 (fun h => by cases h)
 refine ⟨_, _, ρ', .inl ?_, st, hv⟩
 rw [execOp_mk _ o _ ho]
 simp only [execOp, Instr.box, Sem.run_bind, newVar, run_newRow, Sem.run_pure, Result.andThen_ok]
theorem run_isAgg {t : TypeId} (h : (P.underlying t).isSome = true) : (isAgg t).run P w = .ok (isAggT P t) w := by
 obtain ⟨d, hd⟩ := Option.isSome_iff_exists.1 h
 simp only [isAgg, isAggT, Sem.run_bind, run_underlying hd, Result.andThen_ok, hd]
 cases d <;> rfl
theorem info_of_underlying {t : TypeId} (h : (P.underlying t).isSome = true) : ∃ i, P.info? t = some i := by
 unfold Program.underlying at h
 cases hi : P.info? t with
 | none => rw [hi] at h; cases h
 | some i => exact ⟨i, rfl⟩
theorem run_loadVar_agg {t : TypeId} {ad : Addr} {ys : List Value} (hu : (P.underlying t).isSome = true) (hagg : isAggT P t = true) (hl : ys.length = P.cellsOf t) (h : ∀ i y, ys[i]? = some y → w.cell? (ad.add i) = some y) :
  (loadVar t ad).run P w = .ok (.agg ys.toArray) w := by
 obtain ⟨i, hi⟩ := info_of_underlying hu
 simp only [loadVar, Sem.run_bind, run_isAgg hu, Result.andThen_ok, hagg, if_true, run_sizeOf w hi]
 rw [← hl, run_loadCells_list w ad ys h]
 simp
theorem run_loadVar_one {t : TypeId} {ad : Addr} {y : Value} (hu : (P.underlying t).isSome = true) (hagg : isAggT P t = false) (h : w.cell? ad = some y) : (loadVar t ad).run P w = .ok y w := by
 simp [loadVar, run_isAgg hu, hagg, h]
theorem sim_load_at {t : TypeId} {p : Option V} {pv : Value} {v : V} {R' : Tab} (hm : Mem w ρ R) (hp : ∀ v, p = some v → RV w ρ R v pv) (h : (actLoad P t p).run R = some (v, R')) :
  R' = R ∧ ∃ y, (Instr.loadAt t pv).run P w = .ok y w ∧ RV w ρ R v y := by
 unfold actLoad at h
 split at h
 ·rename_i r g off
  obtain ⟨rt, hrt, h⟩ := Pr.get_run h
  have hpt := hp _ rfl
  split at h
  ·rename_i hc
   obtain ⟨_, e, he, hf, hl⟩ := hpt
   rw [hrt] at he; cases he
   obtain ⟨b, o, hρ, rfl⟩ := (hl rt rfl).2 hc.1
   split at h
   ·rename_i hagg
    split at h
    ·rename_i hle
     obtain ⟨rfl, rfl⟩ := Pr.ret_run h
     obtain ⟨ys, h1, h2⟩ := (root_cells hm hrt hρ off (P.cellsOf t)).list
     refine ⟨rfl, _, ?_, ys.toArray, rfl, h1⟩
     simp only [Instr.loadAt, Instr.sureAddr, Sem.run_bind, Sem.run_pure, Result.andThen_ok]
     exact run_loadVar_agg hc.2 hagg (by rw [← h1.1, win_length hle]) h2
    ·exact Pr.fail_run h
   ·rename_i hagg
    split at h
    ·rename_i c hcell
     obtain ⟨rfl, rfl⟩ := Pr.ret_run h
     obtain ⟨y, hy, hr⟩ := root_cells hm hrt hρ off 1 0 c (by rw [win_get]; simpa using hcell)
     refine ⟨rfl, y, ?_, hr⟩
     simp only [Instr.loadAt, Instr.sureAddr, Sem.run_bind, Sem.run_pure, Result.andThen_ok]
     exact run_loadVar_one hc.2 (by simpa using hagg) hy
    ·exact Pr.fail_run h
  ·exact Pr.fail_run h
 ·rename_i cs lo
  obtain ⟨ad, rfl, hs, hr⟩ := hp _ rfl
  split at h
  ·exact Pr.fail_run h
  ·rename_i hu
   have hu : (P.underlying t).isSome = true := by cases hx : P.underlying t <;> simp [hx] at hu ⊢
   split at h
   ·rename_i hagg
    split at h
    ·rename_i hle
     obtain ⟨rfl, rfl⟩ := Pr.ret_run h
     have hc : Cells w ρ _ ad ((cs.take (P.cellsOf t)).map C.toB) := fun i x hx => by
      rw [List.map_take, List.getElem?_take] at hx
      split at hx
      ·exact hr.cells i x hx
      ·cases hx
     obtain ⟨ys, h1, h2⟩ := hc.list
     refine ⟨rfl, _, ?_, ys.toArray, rfl, h1⟩
     simp only [Instr.loadAt, Instr.sureAddr, Sem.run_bind, Sem.run_pure, Result.andThen_ok]
     exact run_loadVar_agg hu hagg (by rw [← h1.1]; simp; omega) h2
    ·exact Pr.fail_run h
   ·rename_i hagg
    split at h
    ·rename_i c cs'
     obtain ⟨rfl, rfl⟩ := Pr.ret_run h
     obtain ⟨y, hy, hr⟩ := hr.cells 0 c.toB rfl
     refine ⟨rfl, y, ?_, hr⟩
     simp only [Instr.loadAt, Instr.sureAddr, Sem.run_bind, Sem.run_pure, Result.andThen_ok]
     exact run_loadVar_one hu (by simpa using hagg) hy
    ·exact Pr.fail_run h
 ·exact Pr.fail_run h
theorem sim_load {o : Oper} {ev : Operand → Option V} {a : Act} {v : V} {R' : Tab} {t : TypeId} {p : Operand} (hm : Mem w ρ R) (hev : EvOK w ρ R ev a) (ho : o.op = .load t p) (h : (actLoad P t (ev p)).run R = some (v, R')) :
  ∃ y w' ρ', Yields P o a w y w' ∧ Step w ρ R w' ρ' R' ∧ RV w' ρ' R' v y := by
 obtain ⟨rfl, y, h1, h2⟩ := sim_load_at hm (fun v hv => hev p v hv) h
 refine ⟨y, w, ρ, .inl ?_, .refl hm, h2⟩
 rw [execOp_mk _ o _ ho]
 simp only [execOp, Sem.run_bind, h1, Result.andThen_ok, Sem.run_pure]
end
end Go.Gm
