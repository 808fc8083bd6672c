import Derived.Test.YtppalpflejcjeaaGreatQGt2
namespace Go.Gm
set_option linter.unusedSimpArgs false
set_option linter.unusedVariables false
def RelO (p : Option TV) (p' : Option V) : Prop := ∀ v, p = some v → p' = some v.raw
def EvR (ev : Operand → Option TV) (ev' : Operand → Option V) : Prop := ∀ x, RelO (ev x) (ev' x)
section
variable {P : Program}
theorem isCell_raw {x : TB} (h : x.isCell = true) : x.raw.isCell = true := by
 cases x <;> first | rfl | simp [TB.isCell] at h
theorem ptsT_raw : ∀ {l : List TG} {ps : List (Nat × Nat × Nat)}, ptsT l = some ps → ptsB (l.map TG.raw) = some ps
 | [], ps, h => by simp only [ptsT, Option.some.injEq] at h; subst h; rfl
 | .b x :: l, ps, h => by
  cases x <;> simp only [ptsT] at h <;> try cases h
  obtain ⟨ps', hps, rfl⟩ := Option.map_eq_some_iff.1 h
  simp only [List.map_cons, TG.raw, TB.raw, ptsB, ptsT_raw hps, Option.map_some]
 | .ag xs :: l, ps, h => by simp [ptsT] at h
theorem cells_raw {p : Option TV} {p' : Option V} (h : RelO p p') {cs : List TB} (hc : p.bind TV.cells = some cs) : p'.bind V.cells = some (cs.map TB.raw) := by
 obtain ⟨v, hv, hc⟩ := Option.bind_eq_some_iff.1 hc
 rw [h v hv]
 simp only [Option.bind_some]
 cases v with
 | g x =>
  cases x with
  | b x =>
   simp only [TV.cells] at hc
   split at hc
   ·rename_i hx; cases hc
    simp [TV.raw, TG.raw, V.cells, isCell_raw hx]
   ·cases hc
  | ag xs =>
   simp only [TV.cells] at hc
   split at hc
   ·rename_i hx
    have e := Option.some.inj hc
    subst e
    simp only [TV.raw, TG.raw, V.cells]
    rw [if_pos]
    rw [List.all_eq_true]
    intro y hy
    obtain ⟨z, hz, rfl⟩ := List.mem_map.1 hy
    exact isCell_raw (List.all_eq_true.1 hx z hz)
   ·cases hc
 | cl f caps =>
  simp only [TV.cells] at hc
  obtain ⟨ps, hps, rfl⟩ := Option.map_eq_some_iff.1 hc
  simp only [TV.raw, V.cells, ptsT_raw hps, Option.map_some, List.map_cons, List.map_nil, TB.raw]
 | tp xs => cases hc
theorem intT_raw {p : Option TV} {p' : Option V} (h : RelO p p') {n : Int} (hn : intT? p = some n) : intOf? p' = some n := by
 unfold intT? at hn
 split at hn
 ·cases hn; rw [h _ rfl]; rfl
 ·cases hn
theorem underlying_some {t : TypeId} (h : ¬ (P.underlying t).isNone = true) : (P.underlying t).isSome = true := by
 cases hx : P.underlying t <;> simp [hx] at h ⊢
theorem sim_loadT {t : TypeId} {p : Option TV} {p' : Option V} (h : RelO p p') : Sim (loadT P t p) (actLoad P t p') TV.raw := by
 unfold loadT
 refine Sim.iteN fun hu => ?_
 have hus := underlying_some hu
 split
 ·rename_i r g fo
  rw [h _ rfl]
  show Sim _ (actLoad P t (some (.g (.b (.pt r g fo))))) _
  unfold actLoad
  refine Sim.get fun rt => ?_
  cases rt with
  | row g' e xs => exact Sim.fail
  | rcd g' cs =>
   refine Sim.iteF fun hg => Sim.pos ⟨hg, hus⟩ ?_
   refine Sim.ite (fun hagg => Sim.pos hagg ?_) (fun hagg => Sim.neg hagg ?_)
   ·refine Sim.iteF fun hle => Sim.pos (by simpa [TRoot.raw] using hle) ?_
    exact Sim.ret (by simp [TV.raw, TG.raw, TRoot.raw, map_win])
   ·cases hc : cs[fo]? with
    | none => exact Sim.fail
    | some c =>
     have : (TRoot.rcd g' cs).raw.cells[fo]? = some c.raw := by simp [TRoot.raw, hc]
     rw [this]
     exact Sim.ret rfl
 ·rename_i r g e i fo
  rw [h _ rfl]
  show Sim _ (actLoad P t (some (.g (.b (.pt r g (i * sz e + fo)))))) _
  unfold actLoad
  refine Sim.get fun rt => ?_
  cases rt with
  | rcd g' cs => exact Sim.fail
  | row g' e' xs0 =>
   refine Sim.iteF fun hg => Sim.pos ⟨hg, hus⟩ ?_
   cases hxs : castL e' e xs0 with
   | none => exact Sim.fail
   | some xs =>
    obtain ⟨_, hB, _⟩ := castL_B hxs
    have hcells : (TRoot.row g' e' xs0).raw.cells = xs.flatMap (encB e) := hB
    rw [hcells]
    refine Sim.sub fun x hx => ?_
    have hlt : i < xs.length := (List.getElem?_eq_some_iff.1 hx).1
    have hlen : (xs.flatMap (encB e)).length = xs.length * sz e := flat_length (encB_length e) xs
    have hmul : (i + 1) * sz e ≤ xs.length * sz e := Nat.mul_le_mul_right _ hlt
    rw [Nat.add_mul, Nat.one_mul] at hmul
    refine Sim.ite (fun hagg => Sim.pos hagg ?_) (fun hagg => Sim.neg hagg ?_)
    ·refine Sim.iteF fun hle => Sim.pos (by rw [hlen]; omega) (Sim.ret ?_)
     simp only [TV.raw, TG.raw, map_win, cellsE_raw]
     rw [flat_win_at (encB_length e) hx hle]
    ·cases hc : (cellsE e x)[fo]? with
     | none => exact Sim.fail
     | some c =>
      have hfo : fo < sz e := by rw [← cellsE_length e x]; exact (List.getElem?_eq_some_iff.1 hc).1
      rw [flat_at (encB_length e) hx hfo, ← cellsE_raw, List.getElem?_map, hc]
      exact Sim.ret rfl
 ·rename_i e xs i fo lo
  rw [h _ rfl]
  show Sim _ (actLoad P t (some (.g (.b (.pr ((xs.flatMap (encC e)).drop (i * sz e + fo)) lo))))) _
  unfold actLoad
  simp only []
  rw [if_neg hu]
  refine Sim.sub fun x hx => Sim.iteF fun hok => ?_
  have hlt : i < xs.length := (List.getElem?_eq_some_iff.1 hx).1
  have hlen : (xs.flatMap (encC e)).length = xs.length * sz e := flat_length (encC_length e) xs
  have hmul : (i + 1) * sz e ≤ xs.length * sz e := Nat.mul_le_mul_right _ hlt
  rw [Nat.add_mul, Nat.one_mul] at hmul
  refine Sim.ite (fun hagg => Sim.pos hagg ?_) (fun hagg => Sim.neg hagg ?_)
  ·refine Sim.iteF fun hle => Sim.pos (by rw [List.length_drop, hlen]; omega) (Sim.ret ?_)
   simp only [TV.raw, TG.raw, map_win, cellsE_raw]
   have := flat_win_at (encC_length e) hx hle
   have e2 : (List.drop (i * sz e + fo) (xs.flatMap (encC e))).take (P.cellsOf t) = win (xs.flatMap (encC e)) (i * sz e + fo) (P.cellsOf t) := rfl
   rw [e2, this, map_win, toB_encC e x hok]
  ·cases hc : (cellsE e x)[fo]? with
   | none => exact Sim.fail
   | some c =>
    have hfo : fo < sz e := by rw [← cellsE_length e x]; exact (List.getElem?_eq_some_iff.1 hc).1
    obtain ⟨r, hr⟩ := flat_drop_at (encC_length e) hx (fo := fo) (by omega)
    have hd : ∃ y l, (encC e x).drop fo = y :: l ∧ (encC e x)[fo]? = some y := by
     have hl : fo < (encC e x).length := by rw [encC_length]; exact hfo
     exact ⟨(encC e x)[fo], (encC e x).drop (fo + 1), List.drop_eq_getElem_cons hl, List.getElem?_eq_getElem hl⟩
    obtain ⟨y, l, hy, hy2⟩ := hd
    rw [hr, hy]
    refine Sim.ret ?_
    have h3 : ((cellsE e x).map TB.raw)[fo]? = some c.raw := by rw [List.getElem?_map, hc]; rfl
    rw [cellsE_raw, ← toB_encC e x hok, List.getElem?_map, hy2] at h3
    simp only [Option.map_some, Option.some.injEq] at h3
    simp only [TV.raw, TG.raw, ← h3]
 ·exact Sim.fail
theorem Sim.content {α β : Type} {f : α → β} {x : TB} {k : ((e : ETy) × List (den e)) → TP α} {k' : List B → Pr β} (h : ∀ e xs, lenB (some (.g (.b x.raw))) = some xs.length → Sim (k ⟨e, xs⟩) (k' (xs.flatMap (encB e))) f) : Sim ((contentT x).bind k) ((Go.Gm.content x.raw).bind k') f := by
 cases x with
 | ro e xs ex lo =>
  show Sim (TP.bind (if e.ok then _ else _) _) _ _
  by_cases hok : e.ok = true
  ·rw [if_pos hok]
   have := h e xs rfl
   rw [← toB_flat hok] at this
   exact this
  ·rw [if_neg hok]; exact Sim.fail
 | rf r g off len =>
  show Sim _ ((Go.Gm.content (.rf r g off len)).bind k') _
  unfold contentT Go.Gm.content
  refine Sim.get fun rt => ?_
  cases rt with
  | rcd g' cs => exact Sim.fail
  | row g' e xs =>
   show Sim (TP.bind (if g' = g then _ else _) _) _ _
   by_cases hg : g' = g
   ·rw [if_pos hg]
    unfold TP.guard TP.bind
    refine Sim.test (fun hd => ?_) (fun _ => Sim.fail)
    have hd := of_decide_eq_true hd
    have hcond : (TRoot.row g' e xs).raw.g = g ∧ (off + len) * (TRoot.row g' e xs).raw.es ≤ (TRoot.row g' e xs).raw.cells.length := ⟨hg, by
     show (off + len) * sz e ≤ (xs.flatMap (encB e)).length
     rw [flat_length (encB_length e)]; exact Nat.mul_le_mul_right _ hd⟩
    dsimp only
    rw [if_pos hcond]
    have := h e (win xs off len) (by rw [win_length hd]; rfl)
    rw [← flat_win (encB_length e)] at this
    exact this
   ·rw [if_neg hg]; exact Sim.fail
 | _ => exact Sim.fail
theorem concs_v : ∀ (vs : List Value), concs (vs.map B.v) = some vs
 | [] => rfl
 | v :: vs => by simp only [List.map_cons, concs, B.conc, concs_v vs]
theorem encB_plain : ∀ (e : ETy) (x : den e), e.plain = true → encB e x = (encV e x).map B.v ∧ encC e x = (encV e x).map C.v
 | .int _, _, _ => ⟨rfl, rfl⟩
 | .bool, _, _ => ⟨rfl, rfl⟩
 | .str, _, _ => ⟨rfl, rfl⟩
 | .pair a b, x, h => by
  simp only [ETy.plain, Bool.and_eq_true] at h
  obtain ⟨h1, h2⟩ := encB_plain a x.1 h.1
  obtain ⟨h3, h4⟩ := encB_plain b x.2 h.2
  simp [encB, encC, encV, h1, h2, h3, h4]
 | .list _ _, _, h => by simp [ETy.plain] at h
theorem flat_plain {e : ETy} (h : e.plain = true) (xs : List (den e)) : xs.flatMap (encB e) = (xs.flatMap (encV e)).map B.v ∧ xs.flatMap (encC e) = (xs.flatMap (encV e)).map C.v := by
 constructor
 ·rw [map_flatMap']; congr 1; funext x; exact (encB_plain e x h).1
 ·rw [map_flatMap']; congr 1; funext x; exact (encB_plain e x h).2
theorem sim_closeTB (x : TB) : Sim (closeTB x) (closeB x.raw) TB.raw := by
 cases x with
 | ro e xs ex lo =>
  show Sim _ (closeB (.ro xs.length (xs.flatMap (encC e)) ex lo)) _
  exact Sim.ret rfl
 | rf r g off len =>
  show Sim _ (closeB (.rf r g off len)) TB.raw
  unfold closeTB closeB contentT content
  refine Sim.get fun rt => ?_
  cases rt with
  | rcd g' cs => exact Sim.fail
  | row g' e xs =>
   show Sim (TP.bind (if g' = g then _ else _) _) _ _
   by_cases hg : g' = g
   ·rw [if_pos hg]
    unfold TP.guard TP.bind
    refine Sim.test (fun hd => ?_) (fun _ => Sim.fail)
    have hd := of_decide_eq_true hd
    have hcond : (TRoot.row g' e xs).raw.g = g ∧ (off + len) * (TRoot.row g' e xs).raw.es ≤ (TRoot.row g' e xs).raw.cells.length := ⟨hg, by
     show (off + len) * sz e ≤ (xs.flatMap (encB e)).length
     rw [flat_length (encB_length e)]; exact Nat.mul_le_mul_right _ hd⟩
    dsimp only
    rw [if_pos hcond]
    show Sim (if e.plain then _ else _) (match concs (win (xs.flatMap (encB e)) (off * sz e) (len * sz e)) with | some vs => _ | none => _) _
    refine Sim.iteF fun hp => ?_
    rw [flat_win (encB_length e), (flat_plain hp _).1, concs_v]
    refine Sim.del (Sim.ret ?_)
    have hl : (win xs off len).length = len := win_length hd
    simp only [TB.raw, (flat_plain hp _).2, hl]
   ·rw [if_neg hg]; exact Sim.fail
 | int k z => exact Sim.ret rfl
 | bl t => exact Sim.ret rfl
 | bool t => exact Sim.ret rfl
 | str l => exact Sim.ret rfl
 | fn f => exact Sim.ret rfl
 | nf => exact Sim.ret rfl
 | skip => exact Sim.ret rfl
 | clo f ps => exact Sim.fail
 | pe r g e i fo => exact Sim.fail
 | pf r g fo => exact Sim.fail
 | pr e xs i fo lo => exact Sim.fail
 | dead => exact Sim.fail
theorem closed_raw (x : TB) : x.raw.closed = x.closed := by cases x <;> rfl
theorem sim_closeEachT : ∀ (l : List TB), Sim (closeEachT l) (closeEach (l.map TB.raw)) (List.map TB.raw)
 | [] => Sim.ret rfl
 | x :: xs => Sim.bind (sim_closeTB x) fun y => Sim.bind (sim_closeEachT xs) fun ys => Sim.ret rfl
theorem all_closed_raw (l : List TB) : (l.map TB.raw).all B.closed = l.all TB.closed := by
 rw [List.all_map]; congr 1; funext x; exact closed_raw x
theorem sim_closeTs (l : List TB) : Sim (closeTs l) (closeAll (l.map TB.raw)) (List.map TB.raw) := by
 unfold closeTs closeAll
 rw [all_closed_raw]
 refine Sim.ite (fun h => Sim.pos h (Sim.ret rfl)) (fun h => Sim.neg h (sim_closeEachT l))
theorem sim_storeT {t : TypeId} {p x : Option TV} {p' x' : Option V} (h : RelO p p') (hx : RelO x x') : Sim (storeT P t p x) (actStore P t p' x') TV.raw := by
 unfold storeT
 split
 ·rename_i r g fo cs hcs
  have hc := cells_raw hx hcs
  rw [h _ rfl]
  show Sim _ (actStore P t (some (.g (.b (.pt r g fo)))) x') _
  unfold actStore
  rw [hc]
  refine Sim.get fun rt0 => ?_
  cases rt0 with
  | row g0 e0 xs0 => exact Sim.fail
  | rcd g0 cs0 =>
   show Sim _ (Pr.get r _) _
   refine Sim.get fun rt => ?_
   cases rt with
   | row g0 e0 xs0 => exact Sim.fail
   | rcd g' old =>
    refine Sim.iteF fun ⟨c1, c2, c3, c4⟩ => Sim.pos ⟨c1, c2, by simpa using c3, by simpa [TRoot.raw] using c4⟩ (Sim.put ?_ (Sim.ret rfl))
    simp only [TRoot.raw, List.map_append, List.map_take, List.map_drop, List.length_map, List.length_append, List.length_take, List.length_drop]
    congr 1
    omega
 ·rename_i r g e i fo cs hcs
  have hc := cells_raw hx hcs
  rw [h _ rfl]
  show Sim _ (actStore P t (some (.g (.b (.pt r g (i * sz e + fo))))) x') _
  unfold actStore
  rw [hc]
  refine Sim.get fun rt0 => ?_
  cases rt0 with
  | rcd g0 cs0 => exact Sim.fail
  | row g0 e0 xs0 =>
   show Sim _ (Pr.bind (closeAll (cs.map TB.raw)) _) _
   refine Sim.bind (sim_closeTs cs) fun cs => Sim.get fun rt => ?_
   cases rt with
   | rcd g0 cs0 => exact Sim.fail
   | row g' e' xs1 =>
    refine Sim.iteF fun ⟨c1, c2, c3, c4⟩ => ?_
    cases hxs : castL e' e xs1 with
    | none => exact Sim.fail
    | some xs =>
     obtain ⟨_, hB, _⟩ := castL_B hxs
     refine Sim.sub fun y hy => ?_
     cases hel : elemOf e ((cellsE e y).take fo ++ (cs ++ (cellsE e y).drop (fo + cs.length))) with
     | none => exact Sim.fail
     | some z =>
      have hlt : i < xs.length := (List.getElem?_eq_some_iff.1 hy).1
      have hlen : (xs.flatMap (encB e)).length = xs.length * sz e := flat_length (encB_length e) xs
      have hmul : (i + 1) * sz e ≤ xs.length * sz e := Nat.mul_le_mul_right _ hlt
      rw [Nat.add_mul, Nat.one_mul] at hmul
      have hz := elemOf_raw hel
      simp only [List.map_append, List.map_take, List.map_drop, cellsE_raw] at hz
      have hcells : (TRoot.row g' e' xs1).raw.cells = xs.flatMap (encB e) := hB
      refine Sim.pos ⟨c1, c2, by simpa using c3, by rw [hcells, hlen]; simp; omega⟩ (Sim.put ?_ (Sim.ret rfl))
      rw [hcells]
      have := flat_set (encB_length e) hy (y := z) (fo := fo) (cs := cs.map TB.raw) (by simpa using c4) (by simpa using hz.symm)
      rw [List.length_map] at this ⊢
      rw [this]
      have hes : sz e' = sz e := by
       rcases castL_sz hxs with h | ⟨h1, h2⟩
       ·rw [h]
       ·subst h2; simp at hlt
      simp only [TRoot.raw, hes]
 ·exact Sim.fail
theorem sim_fieldAddrT {s : TypeId} {x : Option TV} {x' : Option V} {k : Nat} (h : RelO x x') : Sim (fieldAddrT P s x k) (actFieldAddr P s x' k) TV.raw := by
 unfold fieldAddrT actFieldAddr
 cases hu : P.underlying s with
 | none => exact Sim.fail
 | some d =>
  cases d <;> try exact Sim.fail
  rename_i fields
  simp only []
  cases hf : fields[k]? with
  | none => exact Sim.fail
  | some fl =>
   simp only []
   refine Sim.iteN fun hz => Sim.neg hz ?_
   split
   ·rename_i r g fo; rw [h _ rfl]; exact Sim.ret rfl
   ·rename_i r g e i fo; rw [h _ rfl]; exact Sim.ret (by simp [TV.raw, TG.raw, TB.raw, Nat.add_assoc])
   ·rename_i e xs i fo lo; rw [h _ rfl]; exact Sim.ret (by simp [TV.raw, TG.raw, TB.raw, List.drop_drop, Nat.add_assoc])
   ·exact Sim.fail
theorem sim_indexAddrT {t : TypeId} {x i : Option TV} {x' i' : Option V} (h : RelO x x') (hi : RelO i i') : Sim (indexAddrT P t x i) (actIndexAddr P t x' i') TV.raw := by
 unfold indexAddrT
 split
 ·rename_i et n het hn
  unfold actIndexAddr
  rw [het, intT_raw hi hn]
  simp only []
  split
  ·rename_i r g off len
   rw [h _ rfl]
   show Sim _ (Pr.get r _) _
   refine Sim.get fun rt => ?_
   cases rt with
   | rcd g' cs => exact Sim.fail
   | row g' e xs =>
    refine Sim.iteF fun ⟨c1, c2⟩ => Sim.guard fun hd => ?_
    have hd := of_decide_eq_true hd
    exact Sim.pos ⟨c1, c2, hd.1, hd.2⟩ (Sim.ret rfl)
  ·rename_i e xs ex lo
   rw [h _ rfl]
   refine Sim.iteF fun ⟨c1, c2⟩ => Sim.guard fun hd => ?_
   have hd := of_decide_eq_true hd
   show Sim _ (ite _ _ _) _
   refine Sim.pos ⟨c2, hd.1, hd.2, ?_⟩ (Sim.ret ?_)
   ·show n.toNat * P.cellsOf et < (xs.flatMap (encC e)).length
    rw [flat_length (encC_length e), ← c1]
    have : n.toNat < xs.length := by omega
    exact Nat.mul_lt_mul_of_pos_right this (sz_pos e)
   ·simp only [TV.raw, TG.raw, TB.raw, c1, Nat.add_zero]
  ·exact Sim.fail
 ·exact Sim.fail
end
end Go.Gm
