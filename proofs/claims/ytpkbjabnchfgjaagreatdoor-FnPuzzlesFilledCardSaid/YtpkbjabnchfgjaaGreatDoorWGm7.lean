import Derived.Test.YtpkbjabnchfgjaaGreatDoorWGm6
namespace Go.Gm
set_option linter.unusedSimpArgs false
set_option linter.unusedVariables false
section
variable {P : Program} {w : World} {ρ : Rho} {R : Tab}
theorem RBs.get {xs : List B} {ys : List Value} (h : RBs w ρ R xs ys) {i : Nat} {x : B} (hx : xs[i]? = some x) : ∃ y, ys[i]? = some y ∧ RB w ρ R x y := by
 have hlt : i < ys.length := by rw [← h.1]; exact (qh.1 hx).1
 exact ⟨ys[i], qb hlt, h.2 i x _ hx (qb hlt)⟩
theorem RBs.of_get {xs : List B} {ys : List Value} (hl : xs.length = ys.length) (h : ∀ (i : Nat) x, xs[i]? = some x → ∃ y, ys[i]? = some y ∧ RB w ρ R x y) : RBs w ρ R xs ys :=
 ⟨hl, fun i x y hx hy => by obtain ⟨y', hy', hr⟩ := h i x hx; rw [hy] at hy'; cases hy'; exact hr⟩
theorem zon {α : Type} {cells p : List α} {off : Nat} (hl : off + p.length ≤ cells.length) (i : Nat) :
  (cells.take off ++ (p ++ cells.drop (off + p.length)))[i]? = if off ≤ i ∧ i < off + p.length then p[i - off]? else cells[i]? := by
 have ht : (cells.take off).length = off := by simp; omega
 by_cases h1 : i < off
 ·rw [if_neg (by omega), kn (by omega), List.getElem?_take, if_pos h1]
 ·rw [kl (by omega), ht]
  by_cases h2 : i < off + p.length
  ·rw [if_pos (by omega), kn (by omega)]
  ·rw [if_neg (by omega), kl (by omega), List.getElem?_drop]
   congr 1; omega
theorem RBs.splice {cells p : List B} {c : Array Value} {vs : List Value} {off : Nat} (hc : RBs w ρ R cells c.toList) (hp : RBs w ρ R p vs) (hl : off + p.length ≤ cells.length) :
  RBs w ρ R (cells.take off ++ (p ++ cells.drop (off + p.length))) (ovr c off vs).toList := by
 have hcs : c.size = cells.length := by rw [hc.1]; simp
 have hlen : (cells.take off ++ (p ++ cells.drop (off + p.length))).length = cells.length := by simp; omega
 refine RBs.of_get (by rw [hlen]; simp [hcs]) fun i x hx => ?_
 rw [zon hl] at hx
 have ho : (ovr c off vs)[i]? = if off ≤ i ∧ i < off + vs.length then vs[i - off]? else c[i]? := zk5 vs c off i (by rw [← hp.1, hcs]; exact hl)
 rw [← hp.1] at ho
 split at hx
 ·rename_i hin
  rw [if_pos hin] at ho
  obtain ⟨y, hy, hr⟩ := hp.get hx
  exact ⟨y, by rw [Array.getElem?_toList, ho]; exact hy, hr⟩
 ·rename_i hin
  rw [if_neg hin] at ho
  obtain ⟨y, hy, hr⟩ := hc.get hx
  exact ⟨y, by rw [Array.getElem?_toList, ho]; simpa using hy, hr⟩
theorem z2p : ∀ (vs : List Value) (k off : Nat) (c : Array Value), (vs.zipIdx k).foldl (fun cs (x : Value × Nat) => cs.setIfInBounds (off + x.2) x.1) c = ovr c (off + k) vs
 | [], k, off, c => rfl
 | v :: vs, k, off, c => by
  simp only [List.zipIdx_cons, List.foldl_cons, ovr]
  rw [z2p vs (k + 1) off]
  rfl
theorem zapu (off : Nat) (v : Value) (c : Array Value) : v.cells.zipIdx.foldl (fun cs (x : Value × Nat) => cs.setIfInBounds (off + x.2) x.1) c = ovr c off v.cells.toList := by
 rw [← Array.foldl_toList, Array.toList_zipIdx, z2p]
 rfl
def zsd (w : World) (ρ : Rho) (R : Tab) : List (Nat × List B) → List (Nat × Value) → Prop
 | [], [] => True
 | (i, p) :: ps, (j, v) :: vs => i = j ∧ RBs w ρ R p v.cells.toList ∧ zsd w ρ R ps vs
 | _, _ => False
theorem zvj {w' : World} {ρ' : Rho} {R' : Tab} (h : Ext w ρ R w' ρ' R') : ∀ {ps : List (Nat × List B)} {vs : List (Nat × Value)}, zsd w ρ R ps vs → zsd w' ρ' R' ps vs
 | [], [], _ => trivial
 | (i, p) :: ps, (j, v) :: vs, ⟨a, b, c⟩ => ⟨a, zsb h b, zvj h c⟩
 | [], _ :: _, h => h.elim
 | _ :: _, [], h => h.elim
theorem ztu {ev : Operand → Option V} {a : Act} (hev : EvOK w ρ R ev a) : ∀ {l : List (Nat × Operand)} {ps : List (Nat × List B)}, zfd ev l = some ps →
  zsd w ρ R ps (l.map fun p => (p.1, a.eval p.2)) ∧ ∀ v ∈ l, ∀ z ∈ (a.eval v.2).cells.toList, z.oneCell' = true
 | [], ps, h => by simp only [zfd, qc] at h; subst h; exact ⟨trivial, fun v hv => by cases hv⟩
 | (i, x) :: l, ps, h => by
  simp only [zfd] at h
  split at h
  ·rename_i p ps' hp hps
   cases h
   obtain ⟨v, hv, hc⟩ := qx.1 hp
   obtain ⟨h1, h2⟩ := z68 hc (hev x v hv)
   obtain ⟨h3, h4⟩ := ztu hev hps
   refine ⟨⟨rfl, h1, h3⟩, fun v hv z hz => ?_⟩
   rcases List.mem_cons.1 hv with rfl | hv
   ·exact h2 z hz
   ·exact h4 v hv z hz
  ·cases h
theorem zz1 {zb2 : Nat → Option (Nat × Nat)} : ∀ {ps : List (Nat × List B)} {vs : List (Nat × Value)} {cells cs : List B} {c : Array Value}, zgv zb2 cells ps = some cs → zsd w ρ R ps vs → RBs w ρ R cells c.toList →
  ∃ c', Instr.fill zb2 c vs = some c' ∧ RBs w ρ R cs c'.toList
 | [], [], cells, cs, c, h, _, hc => by simp only [zgv, qc] at h; subst h; exact ⟨c, rfl, hc⟩
 | [], _ :: _, _, _, _, _, h, _ => h.elim
 | _ :: _, [], _, _, _, _, h, _ => h.elim
 | (i, p) :: ps, (j, v) :: vs, cells, cs, c, h, hpp, hc => by
  obtain ⟨rfl, hp, hps⟩ := hpp
  simp only [zgv] at h
  split at h
  ·rename_i off size hpl
   split at h
   ·rename_i hcond
    obtain ⟨hpsz, hle⟩ := hcond
    rw [← hpsz] at h
    have hsz : v.cells.size = size := by rw [← hpsz, hp.1]; simp
    have hcsz : c.size = cells.length := by rw [hc.1]; simp
    obtain ⟨c', h1, h2⟩ := zz1 h hps (RBs.splice hc hp (by omega))
    refine ⟨c', ?_, h2⟩
    simp only [Instr.fill, hpl]
    rw [if_neg (by simp [hsz, hcsz]; omega), zapu]
    exact h1
   ·cases h
  ·cases h
theorem zbr {t : TypeId} (h : (P.info? t).isSome = true) : (sizeOf t).run P w = .ok (P.cellsOf t) w := by
 obtain ⟨i, hi⟩ := Option.isSome_iff_exists.1 h
 exact run_sizeOf w hi
theorem zpj {α β : Type} {f : α → Sem β} {g : α → β} : ∀ (l : List α), (∀ x ∈ l, (f x).run P w = .ok (g x) w) → (l.mapM f).run P w = .ok (l.map g) w
 | [], _ => rfl
 | x :: xs, h => by
  rw [List.mapM_cons]
  simp only [Sem.run_bind, h x List.mem_cons_self, Result.andThen_ok, zpj xs (fun y hy => h y (qv _ hy)), Sem.run_pure, qu]
theorem z4b {α β : Type} {f : α → Sem β} {g : α → β} (l : Array α) (h : ∀ x ∈ l, (f x).run P w = .ok (g x) w) : (l.mapM f).run P w = .ok (l.map g) w := by
 rw [Array.mapM_eq_mapM_toList]
 simp only [Sem.run_map, zpj l.toList (fun x hx => h x (Array.mem_toList_iff.1 hx)), Result.andThen_ok]
 rw [← Array.toList_map]
theorem zat7 {o : Oper} {ev : Operand → Option V} {a : Act} {base : Nat} {t : TypeId} {parts : Array (Nat × Operand)} {fields : Array Field} {z cs : List B} {ps : List (Nat × List B)} (hm : Mem w ρ R) (hev : EvOK w ρ R ev a) (ho : o.op = .build t parts)
  (hu : P.underlying t = some (.struct fields)) (hz : zeroCells P t = some z) (hps : zfd ev parts.toList = some ps) (hf : zgv (fun i => (fields[i]?).map fun (f : Field) => (f.offset, P.cellsOf f.type)) z ps = some cs)
  (hfs : ∀ f ∈ fields, (P.info? f.type).isSome = true) :
  ∃ y, zdd P o a w y w ∧ RV w ρ R (.g (.ag cs)) y := by
 obtain ⟨i, zv, hi, hzv, rfl⟩ := zix hz
 obtain ⟨h1, _⟩ := ztu hev hps
 obtain ⟨c', h2, h3⟩ := zz1 hf h1 (zax1 zv.cells.toList)
 refine ⟨.agg c', .inl ?_, c', rfl, h3⟩
 rw [zax _ o _ ho]
 have hplaces : (fields.mapM fun (f : Field) => do pure (f.offset, ← sizeOf f.type) : Sem (Array (Nat × Nat))).run P w = .ok (fields.map fun (f : Field) => (f.offset, P.cellsOf f.type)) w :=
  z4b fields fun f hf => by simp only [Sem.run_bind, zbr (hfs f hf), Result.andThen_ok, Sem.run_pure]
 have hpl : (fun (i : Nat) => (fields.map fun (f : Field) => (f.offset, P.cellsOf f.type))[i]?) = fun (i : Nat) => (fields[i]?).map fun (f : Field) => (f.offset, P.cellsOf f.type) := by
  funext i; rw [Array.getElem?_map]
 have hpt : (Array.map (fun x : Nat × Operand => (x.1, a.eval x.2)) parts).toList = parts.toList.map fun p => (p.1, a.eval p.2) := Array.toList_map ..
 simp only [execOp, Instr.build, Sem.run_bind, zme hi hzv, Result.andThen_ok, run_underlying hu, hplaces]
 rw [hpl, hpt, h2]
 rfl
theorem zat0 {α : Type} (l : List α) (h : 0 < l.length) : ∀ (n i : Nat), ((List.replicate n l).flatten)[i]? = if i < n * l.length then l[i % l.length]? else none
 | 0, i => by simp
 | n + 1, i => by
  rw [List.replicate_succ, List.flatten_cons]
  by_cases hi : i < l.length
  ·rw [kn hi, if_pos (by rw [Nat.add_mul]; omega), Nat.mod_eq_of_lt hi]
  ·rw [kl (by omega), zat0 l h n]
   have hmod : i % l.length = (i - l.length) % l.length := Nat.mod_eq_sub_mod (by omega)
   rw [Nat.add_mul, Nat.one_mul, hmod]
   by_cases h2 : i - l.length < n * l.length
   ·rw [if_pos h2, if_pos (by omega)]
   ·rw [if_neg h2, if_neg (by omega)]
theorem zsc {zv : Value} {n size : Nat} (hs : zv.cells.size = size) (h : 0 < size) :
  RBs w ρ R (List.replicate n (zv.cells.toList.map zsh)).flatten (((Array.range (n * size)).map (zv.cells[· % zv.cells.size]!)).toList) := by
 have hl : (zv.cells.toList.map zsh).length = size := by simp [hs]
 refine RBs.of_get (by simp [hl, hs]) fun i x hx => ?_
 rw [zat0 _ (by omega), hl] at hx
 split at hx
 ·rename_i hlt
  rw [qn] at hx
  obtain ⟨y, hy, rfl⟩ := qf.1 hx
  have hm : i % size < zv.cells.size := by rw [hs]; exact Nat.mod_lt _ h
  refine ⟨y, ?_, zbj0 y⟩
  simp only [Array.getElem?_toList, Array.getElem?_map, Array.getElem?_range, if_pos hlt, Option.map_some, hs]
  rw [getElem!_pos zv.cells (i % size) hm]
  simp at hy
  rw [← hy, Array.getElem?_eq_getElem hm]
 ·cases hx
theorem zj3 : ∀ {ps ps' : List (Nat × List B)} {vs : List (Nat × Value)} {R R' : Tab}, Mem w ρ R → (zg7 ps).run R = some (ps', R') → zsd w ρ R ps vs →
  Step w ρ R w ρ R' ∧ zsd w ρ R' ps' vs ∧ ∀ p ∈ ps', ∀ x ∈ p.2, x.closed = true
 | [], ps', [], R, R', hm, h, _ => by
  obtain ⟨rfl, rfl⟩ := Pr.ret_run h
  exact ⟨.refl hm, trivial, fun p hp => by cases hp⟩
 | [], _, _ :: _, _, _, _, _, h => h.elim
 | _ :: _, _, [], _, _, _, _, h => h.elim
 | (i, p) :: ps, ps', (j, v) :: vs, R, R', hm, h, hpp => by
  obtain ⟨rfl, hp, hps⟩ := hpp
  obtain ⟨q, R1, h1, h⟩ := Pr.bind_run h
  obtain ⟨qs, R2, h2, h⟩ := Pr.bind_run h
  obtain ⟨rfl, rfl⟩ := Pr.ret_run h
  obtain ⟨s1, r1, c1⟩ := zi7 hm h1 hp
  obtain ⟨s2, r2, c2⟩ := zj3 s1.mem h2 (zvj s1.ext hps)
  refine ⟨s1.trans s2, ⟨rfl, zsb s2.ext r1, r2⟩, fun p' hp' => ?_⟩
  rcases List.mem_cons.1 hp' with rfl | hp'
  ·exact c1
  ·exact c2 p' hp'
theorem zo6 {zb2 : Nat → Option (Nat × Nat)} : ∀ {ps : List (Nat × List B)} {cells cs : List B}, zgv zb2 cells ps = some cs → (∀ x ∈ cells, x.closed = true) → (∀ p ∈ ps, ∀ x ∈ p.2, x.closed = true) → ∀ x ∈ cs, x.closed = true
 | [], cells, cs, h, hc, _ => by simp only [zgv, qc] at h; subst h; exact hc
 | (i, p) :: ps, cells, cs, h, hc, hp => by
  simp only [zgv] at h
  split at h
  ·split at h
   ·refine zo6 h (fun x hx => ?_) (fun q hq => hp q (qv _ hq))
    rcases kg.1 hx with hx | hx
    ·exact hc x (List.mem_of_mem_take hx)
    ·rcases kg.1 hx with hx | hx
     ·exact hp _ List.mem_cons_self x hx
     ·exact hc x (List.mem_of_mem_drop hx)
   ·cases h
  ·cases h
theorem zcj {t e : TypeId} (h : zar P t = some e) : P.underlying t = some (.slice e) := by
 unfold zar at h
 split at h
 ·rename_i e' he; cases h; exact he
 ·cases h
theorem zok (hm : Mem w ρ R) {base es n cap : Nat} {cells : List B} {t : TypeId} {cs : Array Value} (hfr : R[base]? = some .fresh) (hs : RBs w ρ R cells (cs.toList.take cells.length)) (hle : cells.length ≤ cs.size) (hc : ∀ x ∈ cells, x.closed = true) (hes : 0 < es)
  (hn : n ≤ cap) (hcl : cells.length ≤ cap * es) (hcap : cap * es ≤ cs.size) {fr : Nat × Nat} (hfz : unfrz fr cs.size) {w' : World} (hw : w'.heap = w.heap.push (.cells cs t fr)) (hos : w'.os = w.os) (hout : w'.output = w.output) :
  ∃ ρ', Step w ρ R w' ρ' (R.set base (.live ⟨0, es, true, cells⟩)) ∧ RV w' ρ' (R.set base (.live ⟨0, es, true, cells⟩)) (.g (.b (.rf base 0 0 n))) (.slice (some ⟨w.heap.size, 0, none⟩) n cap) := by
 have hnew : w'.heap[w.heap.size]? = some (.cells cs t fr) := by rw [hw]; exact zfe w _
 refine ⟨_, Step.make hm (rt := ⟨0, es, true, cells⟩) hfr (c := cs) (T := t) (fr := fr) hfz hle (fun i x hx => ?_) (fun _ => hc) hw hos hout, ⟨_, _, rfl⟩, .live _, za0 hfr, (fun h => by cases h), fun rt' h => ?_⟩
 ·obtain ⟨y, hy, hr⟩ := hs.get hx
  rw [List.getElem?_take] at hy
  split at hy
  ·exact ⟨y, by simpa using hy, hr⟩
  ·cases hy
 ·cases h
  refine ⟨qi _, fun _ => ⟨_, cap, rfl, hn, hes, rfl, by simpa using hcl, .inr ⟨w.heap.size, 0, za1 _ _ _, by simp, ?_⟩⟩⟩
  simp only [bsz, hnew]
  simpa using hcap
theorem zu9 {o : Oper} {ev : Operand → Option V} {a : Act} {base n : Nat} {v : V} {R' : Tab} {t e : TypeId} {parts : Array (Nat × Operand)} {z : List B} {ps : List (Nat × List B)} (hm : Mem w ρ R) (hev : EvOK w ρ R ev a) (ho : o.op = .buildSlice t n parts)
  (he : zar P t = some e) (hps : zfd ev parts.toList = some ps) (hz : zjc P e = some z) (hcond : z.length = P.cellsOf e ∧ 0 < P.cellsOf e ∧ n * P.cellsOf e ≤ 2 ^ 24)
  (h : ((zg7 ps).bind fun ps => match zgv (fun i => some (i * P.cellsOf e, P.cellsOf e)) (List.replicate n z).flatten ps with
   | some cs => .mk base ⟨0, P.cellsOf e, true, cs⟩ (.ret (.g (.b (.rf base 0 0 n))))
   | none => .fail : Pr V).run R = some (v, R')) : ∃ y w' ρ', zdd P o a w y w' ∧ Step w ρ R w' ρ' R' ∧ RV w' ρ' R' v y := by
 obtain ⟨hzl, hpos, hsize⟩ := hcond
 obtain ⟨ps', R1, h1, h⟩ := Pr.bind_run h
 obtain ⟨hp, _⟩ := ztu hev hps
 obtain ⟨st, hp', hcl⟩ := zj3 hm h1 hp
 obtain ⟨i, zv, hi, hzv, rfl⟩ := zgp hz
 have hzs : zv.cells.size = P.cellsOf e := by rw [← hzl]; simp
 cases hf : zgv (fun i => some (i * P.cellsOf e, P.cellsOf e)) (List.replicate n (zv.cells.toList.map zsh)).flatten ps' with
 | none => rw [hf] at h; exact Pr.fail_run h
 | some cs =>
  rw [hf] at h
  obtain ⟨hfr, h⟩ := Pr.mk_run h
  obtain ⟨rfl, rfl⟩ := Pr.ret_run h
  obtain ⟨c', h2, h3⟩ := zz1 hf hp' (zsc (n := n) hzs hpos)
  have hclosed := zo6 hf (fun x hx => by
   obtain ⟨l, hl, hx⟩ := List.mem_flatten.1 hx
   obtain ⟨_, rfl⟩ := List.mem_replicate.1 hl
   obtain ⟨y, _, rfl⟩ := List.mem_map.1 hx
   exact zjz y) hcl
  have hlen : cs.length = n * P.cellsOf e := by
   have : ∀ {ps : List (Nat × List B)} {cells cs : List B}, zgv (fun i => some (i * P.cellsOf e, P.cellsOf e)) cells ps = some cs → cs.length = cells.length := by
    intro ps
    induction ps with
    | nil => intro cells cs h; simp only [zgv, qc] at h; rw [h]
    | cons p ps ih =>
     intro cells cs h
     simp only [zgv] at h
     split at h
     ·rename_i hc; rw [ih h]; simp; omega
     ·cases h
   rw [this hf]; simp [hzs]
  have hcs : c'.size = n * P.cellsOf e := by rw [← hlen, h3.1]; simp
  obtain ⟨ρ', st2, hv⟩ := zok st.mem (base := base) (es := P.cellsOf e) (n := n) (cap := n) (cells := cs) (t := e) (cs := c') hfr (by rw [List.take_of_length_le (by rw [hlen]; simp [hcs])]; exact h3) (by rw [hlen, hcs]; exact qi _) hclosed hpos
   (qi _) (by rw [hlen]; exact qi _) (by rw [hcs]; exact qi _) (fr := (0, 0)) rfl (w' := { w with heap := w.heap.push (.cells c' e) }) rfl rfl rfl
  refine ⟨_, _, ρ', .inl ?_, st.trans st2, hv⟩
  rw [zax _ o _ ho]
  have hpt : (Array.map (fun x : Nat × Operand => (x.1, a.eval x.2)) parts).toList = parts.toList.map fun p => (p.1, a.eval p.2) := Array.toList_map ..
  simp only [execOp, Instr.buildSlice, Sem.run_bind, run_underlying (zcj he), Result.andThen_ok, run_sizeOf w hi]
  rw [if_neg (by omega)]
  by_cases h0 : n * P.cellsOf e = 0
  ·rw [if_pos h0]
   have hrange : (Array.range (n * P.cellsOf e)).map (fun x => (#[] : Array Value)[x % (#[] : Array Value).size]!) = (Array.range (n * P.cellsOf e)).map (zv.cells[· % zv.cells.size]!) := by rw [h0]; simp
   simp only [Sem.run_bind, Sem.run_pure, Result.andThen_ok, hpt]
   rw [hrange, h2]
   simp only [Sem.run_bind, zg9, Result.andThen_ok, Sem.run_pure]
  ·rw [if_neg h0]
   simp only [Sem.run_bind, zme hi hzv, Sem.run_pure, Result.andThen_ok, hpt]
   rw [h2]
   simp only [Sem.run_bind, zg9, Result.andThen_ok, Sem.run_pure]
theorem zaug {o : Oper} {ev : Operand → Option V} {a : Act} {v : V} {R' : Tab} {t : TypeId} {p x : Operand} (hm : Mem w ρ R) (hev : EvOK w ρ R ev a) (ho : o.op = .store t p x) (h : (zgw P t (ev p) (ev x)).run R = some (v, R')) :
  ∃ y w' ρ', zdd P o a w y w' ∧ Step w ρ R w' ρ' R' ∧ RV w' ρ' R' v y := by
 unfold zgw at h
 split at h
 ·rename_i r g off cs hp hx
  obtain ⟨rt0, hrt0, h⟩ := Pr.get_run h
  obtain ⟨cs1, R1, h1, h⟩ := Pr.bind_run h
  obtain ⟨vx, hvx, hcs⟩ := qx.1 hx
  obtain ⟨c1, c2⟩ := z68 hcs (hev x vx hvx)
  have hclose : Step w ρ R w ρ R1 ∧ RBs w ρ R1 cs1 (a.eval x).cells.toList ∧ (rt0.row = true → ∀ x ∈ cs1, x.closed = true) := by
   split at h1
   ·obtain ⟨s, b, c⟩ := zi7 hm h1 c1
    exact ⟨s, b, fun _ => c⟩
   ·rename_i hrow
    obtain ⟨rfl, rfl⟩ := Pr.ret_run h1
    exact ⟨.refl hm, c1, fun h => absurd h hrow⟩
  obtain ⟨st, c3, c4⟩ := hclose
  obtain ⟨rt, hrt, h⟩ := Pr.get_run h
  split at h
  ·rename_i hc
   obtain ⟨hg, hinfo, hlen, hle⟩ := hc
   obtain ⟨_, hrt', h⟩ := Pr.put_run h
   obtain ⟨rfl, rfl⟩ := Pr.ret_run h
   have hrow : rt.row = true → rt0.row = true := by
    intro hr
    obtain ⟨e', he', hf', hl'⟩ := st.ext.ent r _ hrt0 (by simp)
    rw [hrt] at he'; cases he'
    obtain ⟨rt1, h1, h2, h3⟩ := hl' rt rfl
    cases h1
    by_cases hgg : rt.g = rt0.g
    ·rw [(h3 hgg).2.1] at hr; exact hr
    ·obtain ⟨_, e, he, hf, hl⟩ := (hev p _ hp : RB w ρ R (.pt r g off) (a.eval p))
     rw [hrt0] at he; cases he
     have := (hl rt0 rfl).1
     omega
   obtain ⟨_, e, he, hf, hl⟩ := (zj2 st.ext (hev p _ hp) : RB w ρ R1 (.pt r g off) (a.eval p))
   rw [hrt] at he; cases he
   obtain ⟨b, o', hρ, hpv⟩ := (hl rt rfl).2 hg
   have hroot := st.mem.roots r rt hrt
   have hr1 := hroot.1
   rw [hρ] at hr1
   obtain ⟨c, T, fr, hb, hfz, hsz, hcells⟩ := hr1
   have hvl : (a.eval x).cells.toList.length = cs1.length := c3.1.symm
   have hput := Step.put st.mem (rt' := { rt with cells := rt.cells.take off ++ (cs1 ++ rt.cells.drop (off + cs1.length)) }) hrt hρ hb (c' := ovr c (o' + off) (a.eval x).cells.toList) (by simp) (qi _)
    (fun _ => ⟨rfl, rfl, rfl, by simp; omega⟩) (o' := o') (by simp; omega) (fun i y hy => by
     rw [zon hle] at hy
     rw [zk5 _ _ _ _ (by rw [hvl]; omega), hvl]
     split at hy
     ·rename_i hin
      obtain ⟨z, hz, hr⟩ := c3.get hy
      rw [if_pos (by omega)]
      exact ⟨z, by rw [show o' + i - (o' + off) = i - off by omega]; exact hz, hr⟩
     ·rename_i hin
      rw [if_neg (by omega)]
      exact hcells i y hy) (fun hrw y hy => by
     rcases kg.1 hy with hy | hy
     ·exact hroot.2 hrw y (List.mem_of_mem_take hy)
     ·rcases kg.1 hy with hy | hy
      ·exact c4 (hrow hrw) y hy
      ·exact hroot.2 hrw y (List.mem_of_mem_drop hy))
   refine ⟨undef, _, _, .inr ⟨?_, rfl⟩, st.trans hput, trivial⟩
   rw [zax _ o _ ho]
   have hst := zci (P := P) (b := b) (o := o' + off) (T := T) (fr := fr) (a.eval x).cells.toList 0 c w hb hfz (by rw [hvl]; omega) c2
   have haddr : (⟨b, o' + off, none⟩ : Addr) = ⟨b, o' + off, none⟩ := rfl
   simp only [execOp, hpv, Instr.storeAt, Instr.sureAddr, storeVar, Sem.run_bind, Sem.run_pure, Result.andThen_ok, zbr hinfo]
   rw [if_neg (by rw [← hlen, ← hvl]; simp)]
   simp only [hst, Nat.add_zero, Result.andThen_ok, Sem.run_pure]
  ·exact Pr.fail_run h
 ·exact Pr.fail_run h
end
end Go.Gm
