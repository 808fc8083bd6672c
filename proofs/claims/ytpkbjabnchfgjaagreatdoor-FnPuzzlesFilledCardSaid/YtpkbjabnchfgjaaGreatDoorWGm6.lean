import Derived.Test.YtpkbjabnchfgjaaGreatDoorWGm5
namespace Go.Gm
set_option linter.unusedSimpArgs false
set_option linter.unusedVariables false
theorem zoh {α : Type} {P : Program} : ∀ (s : Sem α) {a : α}, zbb P s = some a → ∀ w, s.run P w = .ok a w
 | .pure b, a, h, w => by simp only [zbb, qc] at h; subst h; rfl
 | .program k, a, h, w => zoh (k P) (by simpa only [zbb] using h) w
 | .mark m k, a, h, w => zoh k (by simpa only [zbb] using h) w
 | .load .., a, h, w | .store .., a, h, w | .new .., a, h, w | .shape .., a, h, w | .freeze .., a, h, w | .frozen .., a, h, w | .getObj .., a, h, w | .setObj .., a, h, w | .choose .., a, h, w | .sys .., a, h, w | .halt .., a, h, w => by simp [zbb] at h
def zdd (P : Program) (o : Oper) (a : Act) (w : World) (x : Value) (w' : World) : Prop :=
 (execOp a.eval o).run P w = .ok (.value x) w' ∨ ((execOp a.eval o).run P w = .ok .skip w' ∧ x = undef)
section
variable {P : Program} {w : World} {ρ : Rho} {R : Tab}
theorem za4t {x : B} {z y : Value} (h : x.conc = some z) (hr : RB w ρ R x y) : y = z := by
 cases x <;> simp only [B.conc] at h <;> first | (cases h; exact hr) | cases h
theorem zapl {xs : List B} {zs ys : List Value} (h : zkz xs = some zs) (hr : RBs w ρ R xs ys) : ys = zs := by
 obtain ⟨h1, h2⟩ := zsv h
 apply List.ext_getElem?
 intro i
 cases hy : ys[i]? with
 | none =>
  have : ys.length ≤ i := List.getElem?_eq_none_iff.1 hy
  exact (List.getElem?_eq_none (by rw [← h1, hr.1]; exact this)).symm
 | some y =>
  have hlt : i < zs.length := by rw [← h1, hr.1]; exact (qh.1 hy).1
  have hx : xs[i]? = some (.v zs[i]) := by rw [h2, qn, qb hlt]; rfl
  have : y = zs[i] := hr.2 i _ y hx hy
  rw [this, qb hlt]
theorem zbi7 {x : V} {z y : Value} (h : x.conc = some z) (hr : RV w ρ R x y) : y = z := by
 cases x with
 | g x =>
  cases x with
  | b x => exact za4t h hr
  | ag xs =>
   obtain ⟨zs, hz, rfl⟩ := qf.1 h
   obtain ⟨ys, rfl, hs⟩ := hr
   have := zapl hz hs
   subst this; simp
 | cl f caps => cases h
 | tp xs => cases h
theorem zbkk (ys : List Value) : RBs w ρ R (ys.map B.v) ys := by
 refine ⟨by simp, fun i x y hx hy => ?_⟩
 rw [qn, hy] at hx
 simp only [Option.map_some, qc] at hx
 subst hx
 rfl
theorem zbcb (y : Value) : RV w ρ R (lift y) y := by
 cases y <;> first | rfl | exact ⟨_, rfl, zbkk _⟩
theorem zoz {ev : Operand → Option V} : ∀ {l : List Operand}, zhi ev l = true → ∀ x ∈ l, ∃ v z, ev x = some v ∧ v.conc = some z
 | [], _, x, hx => by cases hx
 | y :: ys, h, x, hx => by
  simp only [zhi, qo] at h
  rcases List.mem_cons.1 hx with rfl | hx
  ·obtain ⟨z, hz⟩ := Option.isSome_iff_exists.1 h.1
   obtain ⟨v, hv, hc⟩ := qx.1 hz
   exact ⟨v, z, hv, hc⟩
  ·exact zoz h.2 x hx
def EvOK (w : World) (ρ : Rho) (R : Tab) (ev : Operand → Option V) (a : Act) : Prop := ∀ x v, ev x = some v → RV w ρ R v (a.eval x)
theorem zwy {o : Oper} {ev : Operand → Option V} {a : Act} {v : V} (h : zc6 P o ev = some v) (hev : EvOK w ρ R ev a) :
  ∃ x, (execOp a.eval o).run P w = .ok (.value x) w ∧ RV w ρ R v x := by
 unfold zc6 at h
 split at h
 ·rename_i hall
  split at h
  ·cases h
  ·rename_i hns
   have hcongr : execOp a.eval o = execOp (zde ev) o := execOp_congr o (fun cs b hs => hns cs b hs) fun x hx => by
    obtain ⟨v, z, hv, hz⟩ := zoz hall x (Array.mem_toList_iff.2 hx)
    rw [zbi7 hz (hev x v hv)]
    simp [zde, hv, hz]
   split at h
   ·rename_i y hy
    cases h
    exact ⟨y, by rw [hcongr]; exact zoh _ hy w, zbcb y⟩
   ·cases h
 ·cases h
theorem z0d (y : Value) : RB w ρ R (zor y) y := by
 unfold zor
 split
 ·exact ⟨none, 0, rfl, qi _, fun _ => rfl, .inl rfl⟩
 ·rfl
theorem zat5 {x : B} {y : Value} (h : RB w ρ R x y) : RB w ρ R x.shut y := by
 cases x <;> first
  | exact h
  | (obtain ⟨a, cap, e, hn, _, hc⟩ := h; exact ⟨a, cap, e, hn, (fun h => by cases h), hc⟩)
theorem zbj0 (y : Value) : RB w ρ R (zsh y) y := zat5 (z0d y)
theorem zjz (y : Value) : (zsh y).closed = true := by unfold zsh zor; split <;> rfl
theorem zax0 {xs : List B} {ys : List Value} (h : RBs w ρ R xs ys) : RBs w ρ R (xs.map B.shut) ys := by
 refine ⟨by simpa using h.1, fun i x y hx hy => ?_⟩
 rw [qn] at hx
 obtain ⟨z, hz, rfl⟩ := qf.1 hx
 exact zat5 (h.2 i z y hz hy)
theorem zax1 (ys : List Value) : RBs w ρ R (ys.map zor) ys := by
 refine ⟨by simp, fun i x y hx hy => ?_⟩
 rw [qn, hy] at hx
 simp only [Option.map_some, qc] at hx
 subst hx
 exact z0d y
theorem zae2 (y : Value) : RV w ρ R (zn9 y) y := by
 unfold zn9
 split
 ·exact ⟨_, rfl, zax1 _⟩
 ·exact z0d y
theorem zbcn {s : Nat → Option V} {a : Act} (h : ∀ t v, s t = some v → RV w ρ R v (a.tmps.getD t undef)) : EvOK w ρ R (evOf s) a := by
 intro x v hx
 cases x with
 | tmp t => exact h t v hx
 | const y => simp only [evOf, qc] at hx; subst hx; exact zae2 y
 | global g => cases hx
 | func f => simp only [evOf, qc] at hx; subst hx; rfl
theorem zax (ρ : Operand → Value) (o : Oper) (op : Op) (h : o.op = op) : execOp ρ o = execOp ρ { o with op := op } := by cases o; cases h; rfl
theorem z67 {x : B} {y : Value} (hc : x.isCell = true) (hr : RB w ρ R x y) : y.oneCell' = true ∧ y.cells = #[y] := by
 cases x with
 | v z =>
  have : y = z := hr
  subst this
  cases y <;> simp [B.isCell] at hc <;> exact ⟨rfl, rfl⟩
 | ro n cs ex lo => obtain ⟨a, cap, rfl, _⟩ := hr; exact ⟨rfl, rfl⟩
 | rf r g off len => obtain ⟨⟨a, cap, rfl⟩, _⟩ := hr; exact ⟨rfl, rfl⟩
 | pt r g off => obtain ⟨⟨a, rfl⟩, _⟩ := hr; exact ⟨rfl, rfl⟩
 | pr cs lo => obtain ⟨ad, rfl, _⟩ := hr; exact ⟨rfl, rfl⟩
 | clo f ps => obtain ⟨ys, rfl, _⟩ := hr; exact ⟨rfl, rfl⟩
 | dead => simp [B.isCell] at hc
theorem za6a : ∀ {caps : List G} {ps : List (Nat × Nat × Nat)} {ys : List Value}, ptsB caps = some ps → RGs w ρ R caps ys → RPs w ρ R ps ys
 | [], ps, ys, h, hr => by
  simp only [ptsB, qc] at h
  subst h
  exact ⟨hr.1, fun i p y hp => by simp at hp⟩
 | .b (.pt r g off) :: caps, ps, ys, h, ⟨hl, hr⟩ => by
  simp only [ptsB] at h
  obtain ⟨ps', hps, rfl⟩ := qf.1 h
  match ys, hl with
  | y :: ys, hl =>
   obtain ⟨h1, h2⟩ := za6a (ys := ys) hps ⟨by simpa using hl, fun i x z hx hz => hr (i + 1) x z (by simpa using hx) (by simpa using hz)⟩
   refine ⟨by simp [h1], fun i p z hp hz => ?_⟩
   cases i with
   | zero =>
    simp only [kk, qc] at hp hz
    subst hp hz
    exact hr 0 _ y rfl rfl
   | succ i => exact h2 i p z (by simpa using hp) (by simpa using hz)
theorem z68 {x : V} {y : Value} {cs : List B} (h : x.cells = some cs) (hr : RV w ρ R x y) : RBs w ρ R cs y.cells.toList ∧ ∀ z ∈ y.cells.toList, z.oneCell' = true := by
 cases x with
 | g x =>
  cases x with
  | b x =>
   simp only [V.cells] at h
   split at h
   ·rename_i hc
    cases h
    obtain ⟨h1, h2⟩ := z67 hc hr
    rw [h2]
    exact ⟨RBs.cons hr .nil, fun z hz => by simp at hz; subst hz; exact h1⟩
   ·cases h
  | ag xs =>
   simp only [V.cells] at h
   split at h
   ·rename_i hc
    have hxs : cs = xs := (Option.some.inj h).symm
    subst hxs
    obtain ⟨ys, rfl, hs⟩ := hr
    refine ⟨hs, fun z hz => ?_⟩
    simp only [Value.cells] at hz
    obtain ⟨i, hi⟩ := List.getElem?_of_mem hz
    have hlt : i < cs.length := by rw [hs.1]; exact (qh.1 hi).1
    exact (z67 (qt.1 hc _ (List.getElem_mem hlt)) (hs.2 i _ z (qb hlt) hi)).1
   ·cases h
 | cl f caps =>
  simp only [V.cells] at h
  obtain ⟨ps, hps, rfl⟩ := qf.1 h
  obtain ⟨ys, rfl, hy⟩ := hr
  refine ⟨RBs.cons ⟨ys, rfl, za6a hps hy⟩ .nil, fun z hz => ?_⟩
  have hz : z ∈ [Value.func (.func f) #[] ys] := hz
  rw [List.mem_singleton] at hz
  rw [hz]; rfl
 | tp xs => cases h
theorem zacn {o : Oper} {ev : Operand → Option V} {a : Act} {base : Nat} {v : V} {R' : Tab} {t : TypeId} {x : Operand} (hm : Mem w ρ R) (hev : EvOK w ρ R ev a) (ho : ∀ w, (execOp a.eval o).run P w = .ok (.value (a.eval x)) w)
  (h : (zsg P t x (ev x) base).run R = some (v, R')) : ∃ y w' ρ', zdd P o a w y w' ∧ Step w ρ R w' ρ' R' ∧ RV w' ρ' R' v y := by
 have plain : ∀ {v R'}, (Pr.ofOpt (ev x)).run R = some (v, R') → ∃ y w' ρ', zdd P o a w y w' ∧ Step w ρ R w' ρ' R' ∧ RV w' ρ' R' v y := by
  intro v R' h
  obtain ⟨hv, rfl⟩ := Pr.ofOpt_run h
  exact ⟨_, w, ρ, .inl (ho w), .refl hm, hev x v hv⟩
 unfold zsg at h
 split at h
 ·split at h
  ·split at h
   ·rename_i e _ hes
    obtain ⟨hfr, h⟩ := Pr.mk_run h
    obtain ⟨rfl, rfl⟩ := Pr.ret_run h
    refine ⟨_, w, _, .inl (ho w), Step.make0 hm hfr rfl, ⟨none, 0, rfl⟩, .live ⟨0, P.cellsOf e, true, []⟩, za0 hfr, (fun h => by cases h), fun rt hrt => ?_⟩
    cases hrt
    exact ⟨qi _, fun _ => ⟨none, 0, rfl, qi _, hes, rfl, by simp, .inl rfl⟩⟩
   ·exact Pr.fail_run h
  ·exact plain h
 ·exact plain h
theorem zg9 (e : TypeId) (cs : Array Value) : (newRow e cs).run P w = .ok ⟨w.heap.size, 0, none⟩ { w with heap := w.heap.push (.cells cs e) } := rfl
theorem zwv (hm : Mem w ρ R) {base : Nat} {rt : Root} {t : TypeId} {cs : Array Value} (hfr : R[base]? = some .fresh) (hg : rt.g = 0) (hs : RBs w ρ R rt.cells cs.toList) (hrow : rt.row = true → ∀ x ∈ rt.cells, x.closed = true) :
  ∃ ρ', Step w ρ R { w with heap := w.heap.push (.cells cs t) } ρ' (R.set base (.live rt)) ∧ ρ' base = some (w.heap.size, 0) ∧
   RV { w with heap := w.heap.push (.cells cs t) } ρ' (R.set base (.live rt)) (.g (.b (.pt base 0 0))) (.pointer (some ⟨w.heap.size, 0, none⟩)) := by
 refine ⟨_, Step.make hm hfr (c := cs) (T := t) (fr := (0, 0)) rfl (Nat.le_of_eq hs.1) (fun i x hx => ?_) hrow rfl rfl rfl, za1 _ _ _, ⟨_, rfl⟩, .live rt, za0 hfr, (fun h => by cases h), fun rt' h => ?_⟩
 ·have hlt : i < cs.toList.length := by rw [← hs.1]; exact (qh.1 hx).1
  refine ⟨cs.toList[i], by simp at hlt; simp [hlt], hs.2 i x _ hx (qb hlt)⟩
 ·cases h
  exact ⟨by omega, fun _ => ⟨w.heap.size, 0, za1 _ _ _, rfl⟩⟩
theorem zix {t : TypeId} {cs : List B} (h : zeroCells P t = some cs) : ∃ i z, P.info? t = some i ∧ i.zero = some z ∧ cs = z.cells.toList.map zor := by
 unfold zeroCells at h
 obtain ⟨z, hz, rfl⟩ := qf.1 h
 obtain ⟨i, hi, hz⟩ := qx.1 hz
 exact ⟨i, z, hi, hz, rfl⟩
theorem zgp {t : TypeId} {cs : List B} (h : zjc P t = some cs) : ∃ i z, P.info? t = some i ∧ i.zero = some z ∧ cs = z.cells.toList.map zsh := by
 unfold zjc at h
 obtain ⟨z, hz, rfl⟩ := qf.1 h
 obtain ⟨i, hi, hz⟩ := qx.1 hz
 exact ⟨i, z, hi, hz, rfl⟩
theorem zme {t : TypeId} {i : TypeInfo} {z : Value} (hi : P.info? t = some i) (hz : i.zero = some z) : (zeroValue t).run P w = .ok z w := by
 simp only [zeroValue, Sem.run_bind, run_typeInfo w hi, Result.andThen_ok, hz]; rfl
theorem zat6 {o : Oper} {a : Act} {base : Nat} {v : V} {R' : Tab} {t : TypeId} {cs : List B} (hm : Mem w ρ R) (ho : o.op = .alloc t) (hz : zeroCells P t = some cs)
  (h : (Pr.mk base (zpi P t cs) (.ret (.g (.b (.pt base 0 0)))) : Pr V).run R = some (v, R')) : ∃ y w' ρ', zdd P o a w y w' ∧ Step w ρ R w' ρ' R' ∧ RV w' ρ' R' v y := by
 obtain ⟨hfr, h⟩ := Pr.mk_run h
 obtain ⟨rfl, rfl⟩ := Pr.ret_run h
 obtain ⟨i, z, hi, hz', rfl⟩ := zix hz
 have hg : (zpi P t (z.cells.toList.map zor)).g = 0 := by unfold zpi; split <;> rfl
 have hcells : RBs w ρ R (zpi P t (z.cells.toList.map zor)).cells z.cells.toList := by
  unfold zpi; split
  ·exact zax0 (zax1 _)
  ·exact zax1 _
 obtain ⟨ρ', st, _, hv⟩ := zwv (t := t) (cs := z.cells) hm hfr hg hcells (fun hrow x hx => by
  unfold zpi at hrow hx
  split at hrow
  ·rename_i _ _ hu
   rw [hu] at hx
   simp only [List.map_map] at hx
   obtain ⟨y, _, rfl⟩ := List.mem_map.1 hx
   exact zjz y
  ·cases hrow)
 refine ⟨_, _, ρ', .inl ?_, st, hv⟩
 rw [zax _ o _ ho]
 simp only [execOp, Instr.alloc, Sem.run_bind, zme hi hz', Result.andThen_ok, newVar, zg9, Sem.run_pure]
theorem zben {o : Oper} {ev : Operand → Option V} {a : Act} {base : Nat} {v : V} {R' : Tab} {t : TypeId} {x : Operand} {cs : List B} (hm : Mem w ρ R) (hev : EvOK w ρ R ev a) (ho : o.op = .box t x) (hx : (ev x).bind V.cells = some cs)
  (h : (Pr.mk base ⟨0, cs.length, false, cs⟩ (.ret (.g (.b (.pt base 0 0)))) : Pr V).run R = some (v, R')) : ∃ y w' ρ', zdd P o a w y w' ∧ Step w ρ R w' ρ' R' ∧ RV w' ρ' R' v y := by
 obtain ⟨hfr, h⟩ := Pr.mk_run h
 obtain ⟨rfl, rfl⟩ := Pr.ret_run h
 obtain ⟨vx, hvx, hcs⟩ := qx.1 hx
 obtain ⟨h1, _⟩ := z68 hcs (hev x vx hvx)
 obtain ⟨ρ', st, _, hv⟩ := zwv (t := t) (cs := (a.eval x).cells) (rt := ⟨0, cs.length, false, cs⟩) hm hfr rfl h1 (fun h => by cases h)
 refine ⟨_, _, ρ', .inl ?_, st, hv⟩
 rw [zax _ o _ ho]
 simp only [execOp, Instr.box, Sem.run_bind, newVar, zg9, Sem.run_pure, Result.andThen_ok]
theorem z4d {t : TypeId} (h : (P.underlying t).isSome = true) : (isAgg t).run P w = .ok (zl1 P t) w := by
 obtain ⟨d, hd⟩ := Option.isSome_iff_exists.1 h
 simp only [isAgg, zl1, Sem.run_bind, run_underlying hd, Result.andThen_ok, hd]
 cases d <;> rfl
theorem zl0 {t : TypeId} (h : (P.underlying t).isSome = true) : ∃ i, P.info? t = some i := by
 unfold Program.underlying at h
 cases hi : P.info? t with
 | none => rw [hi] at h; cases h
 | some i => exact ⟨i, rfl⟩
theorem zi4 {t : TypeId} {ad : Addr} {ys : List Value} (hu : (P.underlying t).isSome = true) (hagg : zl1 P t = true) (hl : ys.length = P.cellsOf t) (h : ∀ i y, ys[i]? = some y → w.cell? (ad.add i) = some y) :
  (loadVar t ad).run P w = .ok (.agg ys.toArray) w := by
 obtain ⟨i, hi⟩ := zl0 hu
 simp only [loadVar, Sem.run_bind, z4d hu, Result.andThen_ok, hagg, if_true, run_sizeOf w hi]
 rw [← hl, run_loadCells_list w ad ys h]
 simp
theorem zi5 {t : TypeId} {ad : Addr} {y : Value} (hu : (P.underlying t).isSome = true) (hagg : zl1 P t = false) (h : w.cell? ad = some y) : (loadVar t ad).run P w = .ok y w := by
 simp [loadVar, z4d hu, hagg, h]
theorem zui {t : TypeId} {p : Option V} {pv : Value} {v : V} {R' : Tab} (hm : Mem w ρ R) (hp : ∀ v, p = some v → RV w ρ R v pv) (h : (zfb P t p).run R = some (v, R')) :
  R' = R ∧ ∃ y, (Instr.loadAt t pv).run P w = .ok y w ∧ RV w ρ R v y := by
 unfold zfb at h
 split at h
 ·rename_i r g off
  obtain ⟨rt, hrt, h⟩ := Pr.get_run h
  have hpt := hp _ rfl
  split at h
  ·rename_i hc
   obtain ⟨_, e, he, hf, hl⟩ := hpt
   rw [hrt] at he; cases he
   obtain ⟨b, o, hρ, rfl⟩ := (hl rt rfl).2 hc.1
   split at h
   ·rename_i hagg
    split at h
    ·rename_i hle
     obtain ⟨rfl, rfl⟩ := Pr.ret_run h
     obtain ⟨ys, h1, h2⟩ := (zff hm hrt hρ off (P.cellsOf t)).list
     refine ⟨rfl, _, ?_, ys.toArray, rfl, h1⟩
     simp only [Instr.loadAt, Instr.sureAddr, Sem.run_bind, Sem.run_pure, Result.andThen_ok]
     exact zi4 hc.2 hagg (by rw [← h1.1, zfj hle]) h2
    ·exact Pr.fail_run h
   ·rename_i hagg
    split at h
    ·rename_i c hcell
     obtain ⟨rfl, rfl⟩ := Pr.ret_run h
     obtain ⟨y, hy, hr⟩ := zff hm hrt hρ off 1 0 c (by rw [zoq]; simpa using hcell)
     refine ⟨rfl, y, ?_, hr⟩
     simp only [Instr.loadAt, Instr.sureAddr, Sem.run_bind, Sem.run_pure, Result.andThen_ok]
     exact zi5 hc.2 (by simpa using hagg) hy
    ·exact Pr.fail_run h
  ·exact Pr.fail_run h
 ·rename_i cs lo
  obtain ⟨ad, rfl, hs, hr⟩ := hp _ rfl
  split at h
  ·exact Pr.fail_run h
  ·rename_i hu
   have hu : (P.underlying t).isSome = true := by cases hx : P.underlying t <;> simp [hx] at hu ⊢
   split at h
   ·rename_i hagg
    split at h
    ·rename_i hle
     obtain ⟨rfl, rfl⟩ := Pr.ret_run h
     have hc : Cells w ρ _ ad ((cs.take (P.cellsOf t)).map C.toB) := fun i x hx => by
      rw [List.map_take, List.getElem?_take] at hx
      split at hx
      ·exact hr.cells i x hx
      ·cases hx
     obtain ⟨ys, h1, h2⟩ := hc.list
     refine ⟨rfl, _, ?_, ys.toArray, rfl, h1⟩
     simp only [Instr.loadAt, Instr.sureAddr, Sem.run_bind, Sem.run_pure, Result.andThen_ok]
     exact zi4 hu hagg (by rw [← h1.1]; simp; omega) h2
    ·exact Pr.fail_run h
   ·rename_i hagg
    split at h
    ·rename_i c cs'
     obtain ⟨rfl, rfl⟩ := Pr.ret_run h
     obtain ⟨y, hy, hr⟩ := hr.cells 0 c.toB rfl
     refine ⟨rfl, y, ?_, hr⟩
     simp only [Instr.loadAt, Instr.sureAddr, Sem.run_bind, Sem.run_pure, Result.andThen_ok]
     exact zi5 hu (by simpa using hagg) hy
    ·exact Pr.fail_run h
 ·exact Pr.fail_run h
theorem za12 {o : Oper} {ev : Operand → Option V} {a : Act} {v : V} {R' : Tab} {t : TypeId} {p : Operand} (hm : Mem w ρ R) (hev : EvOK w ρ R ev a) (ho : o.op = .load t p) (h : (zfb P t (ev p)).run R = some (v, R')) :
  ∃ y w' ρ', zdd P o a w y w' ∧ Step w ρ R w' ρ' R' ∧ RV w' ρ' R' v y := by
 obtain ⟨rfl, y, h1, h2⟩ := zui hm (fun v hv => hev p v hv) h
 refine ⟨y, w, ρ, .inl ?_, .refl hm, h2⟩
 rw [zax _ o _ ho]
 simp only [execOp, Sem.run_bind, h1, Result.andThen_ok, Sem.run_pure]
end
end Go.Gm
