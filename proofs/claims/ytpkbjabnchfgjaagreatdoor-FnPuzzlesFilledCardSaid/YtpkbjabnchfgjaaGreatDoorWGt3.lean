import Derived.Test.YtpkbjabnchfgjaaGreatDoorWGt2
namespace Go.Gm
set_option linter.unusedSimpArgs false
set_option linter.unusedVariables false
def RelO (p : Option TV) (p' : Option V) : Prop := ∀ v, p = some v → p' = some v.raw
def EvR (ev : Operand → Option TV) (ev' : Operand → Option V) : Prop := ∀ x, RelO (ev x) (ev' x)
section
variable {P : Program}
theorem zwa {x : TB} (h : x.isCell = true) : x.raw.isCell = true := by
 cases x <;> first | rfl | simp [TB.isCell] at h
theorem zace : ∀ {l : List TG} {ps : List (Nat × Nat × Nat)}, ptsT l = some ps → ptsB (l.map TG.raw) = some ps
 | [], ps, h => by simp only [ptsT, qc] at h; subst h; rfl
 | .b x :: l, ps, h => by
  cases x <;> simp only [ptsT] at h <;> try cases h
  obtain ⟨ps', hps, rfl⟩ := qf.1 h
  simp only [qu, TG.raw, TB.raw, ptsB, zace hps, Option.map_some]
 | .ag xs :: l, ps, h => by simp [ptsT] at h
theorem zlo {p : Option TV} {p' : Option V} (h : RelO p p') {cs : List TB} (hc : p.bind TV.cells = some cs) : p'.bind V.cells = some (cs.map TB.raw) := by
 obtain ⟨v, hv, hc⟩ := qx.1 hc
 rw [h v hv]
 simp only [qa]
 cases v with
 | g x =>
  cases x with
  | b x =>
   simp only [TV.cells] at hc
   split at hc
   ·rename_i hx; cases hc
    simp [TV.raw, TG.raw, V.cells, zwa hx]
   ·cases hc
  | ag xs =>
   simp only [TV.cells] at hc
   split at hc
   ·rename_i hx
    have e := Option.some.inj hc
    subst e
    simp only [TV.raw, TG.raw, V.cells]
    rw [if_pos]
    rw [qt]
    intro y hy
    obtain ⟨z, hz, rfl⟩ := List.mem_map.1 hy
    exact zwa (qt.1 hx z hz)
   ·cases hc
 | cl f caps =>
  simp only [TV.cells] at hc
  obtain ⟨ps, hps, rfl⟩ := qf.1 hc
  simp only [TV.raw, V.cells, zace hps, Option.map_some, qu, List.map_nil, TB.raw]
 | tp xs => cases hc
theorem zp8 {p : Option TV} {p' : Option V} (h : RelO p p') {n : Int} (hn : zu5 p = some n) : ztl p' = some n := by
 unfold zu5 at hn
 split at hn
 ·cases hn; rw [h _ rfl]; rfl
 ·cases hn
theorem zuz {t : TypeId} (h : ¬ (P.underlying t).isNone = true) : (P.underlying t).isSome = true := by
 cases hx : P.underlying t <;> simp [hx] at h ⊢
theorem z4i {t : TypeId} {p : Option TV} {p' : Option V} (h : RelO p p') : Sim (za0z P t p) (zfb P t p') TV.raw := by
 unfold za0z
 refine Sim.iteN fun hu => ?_
 have hus := zuz hu
 split
 ·rename_i r g fo
  rw [h _ rfl]
  show Sim _ (zfb P t (some (.g (.b (.pt r g fo))))) _
  unfold zfb
  refine Sim.get fun rt => ?_
  cases rt with
  | row g' e xs => exact Sim.fail
  | rcd g' cs =>
   refine Sim.iteF fun hg => Sim.pos ⟨hg, hus⟩ ?_
   refine Sim.ite (fun hagg => Sim.pos hagg ?_) (fun hagg => Sim.neg hagg ?_)
   ·refine Sim.iteF fun hle => Sim.pos (by simpa [TRoot.raw] using hle) ?_
    exact Sim.ret (by simp [TV.raw, TG.raw, TRoot.raw, zzo])
   ·cases hc : cs[fo]? with
    | none => exact Sim.fail
    | some c =>
     have : (TRoot.rcd g' cs).raw.cells[fo]? = some c.raw := by simp [TRoot.raw, hc]
     rw [this]
     exact Sim.ret rfl
 ·rename_i r g e i fo
  rw [h _ rfl]
  show Sim _ (zfb P t (some (.g (.b (.pt r g (i * sz e + fo)))))) _
  unfold zfb
  refine Sim.get fun rt => ?_
  cases rt with
  | rcd g' cs => exact Sim.fail
  | row g' e' xs0 =>
   refine Sim.iteF fun hg => Sim.pos ⟨hg, hus⟩ ?_
   cases hxs : zdg e' e xs0 with
   | none => exact Sim.fail
   | some xs =>
    obtain ⟨_, hB, _⟩ := zek hxs
    have hcells : (TRoot.row g' e' xs0).raw.cells = xs.flatMap (encB e) := hB
    rw [hcells]
    refine Sim.sub fun x hx => ?_
    have hlt : i < xs.length := (qh.1 hx).1
    have hlen : (xs.flatMap (encB e)).length = xs.length * sz e := za3 (zam e) xs
    have hmul : (i + 1) * sz e ≤ xs.length * sz e := ki _ hlt
    rw [Nat.add_mul, Nat.one_mul] at hmul
    refine Sim.ite (fun hagg => Sim.pos hagg ?_) (fun hagg => Sim.neg hagg ?_)
    ·refine Sim.iteF fun hle => Sim.pos (by rw [hlen]; omega) (Sim.ret ?_)
     simp only [TV.raw, TG.raw, zzo, zeb]
     rw [zta (zam e) hx hle]
    ·cases hc : (zf3 e x)[fo]? with
     | none => exact Sim.fail
     | some c =>
      have hfo : fo < sz e := by rw [← zlm e x]; exact (qh.1 hc).1
      rw [zbcr (zam e) hx hfo, ← zeb, qn, hc]
      exact Sim.ret rfl
 ·rename_i e xs i fo lo
  rw [h _ rfl]
  show Sim _ (zfb P t (some (.g (.b (.pr ((xs.flatMap (encC e)).drop (i * sz e + fo)) lo))))) _
  unfold zfb
  simp only []
  rw [if_neg hu]
  refine Sim.sub fun x hx => Sim.iteF fun hok => ?_
  have hlt : i < xs.length := (qh.1 hx).1
  have hlen : (xs.flatMap (encC e)).length = xs.length * sz e := za3 (zby e) xs
  have hmul : (i + 1) * sz e ≤ xs.length * sz e := ki _ hlt
  rw [Nat.add_mul, Nat.one_mul] at hmul
  refine Sim.ite (fun hagg => Sim.pos hagg ?_) (fun hagg => Sim.neg hagg ?_)
  ·refine Sim.iteF fun hle => Sim.pos (by rw [kb, hlen]; omega) (Sim.ret ?_)
   simp only [TV.raw, TG.raw, zzo, zeb]
   have := zta (zby e) hx hle
   have e2 : (List.drop (i * sz e + fo) (xs.flatMap (encC e))).take (P.cellsOf t) = win (xs.flatMap (encC e)) (i * sz e + fo) (P.cellsOf t) := rfl
   rw [e2, this, zzo, zjy e x hok]
  ·cases hc : (zf3 e x)[fo]? with
   | none => exact Sim.fail
   | some c =>
    have hfo : fo < sz e := by rw [← zlm e x]; exact (qh.1 hc).1
    obtain ⟨r, hr⟩ := zis (zby e) hx (fo := fo) (by omega)
    have hd : ∃ y l, (encC e x).drop fo = y :: l ∧ (encC e x)[fo]? = some y := by
     have hl : fo < (encC e x).length := by rw [zby]; exact hfo
     exact ⟨(encC e x)[fo], (encC e x).drop (fo + 1), qm hl, qb hl⟩
    obtain ⟨y, l, hy, hy2⟩ := hd
    rw [hr, hy]
    refine Sim.ret ?_
    have h3 : ((zf3 e x).map TB.raw)[fo]? = some c.raw := by rw [qn, hc]; rfl
    rw [zeb, ← zjy e x hok, qn, hy2] at h3
    simp only [Option.map_some, qc] at h3
    simp only [TV.raw, TG.raw, ← h3]
 ·exact Sim.fail
theorem Sim.content {α β : Type} {f : α → β} {x : TB} {k : ((e : ETy) × List (den e)) → TP α} {k' : List B → Pr β} (h : ∀ e xs, lenB (some (.g (.b x.raw))) = some xs.length → Sim (k ⟨e, xs⟩) (k' (xs.flatMap (encB e))) f) : Sim ((zgx x).bind k) ((Go.Gm.content x.raw).bind k') f := by
 cases x with
 | ro e xs ex lo =>
  show Sim (TP.bind (if e.ok then _ else _) _) _ _
  by_cases hok : e.ok = true
  ·rw [if_pos hok]
   have := h e xs rfl
   rw [← zacz hok] at this
   exact this
  ·rw [if_neg hok]; exact Sim.fail
 | rf r g off len =>
  show Sim _ ((Go.Gm.content (.rf r g off len)).bind k') _
  unfold zgx Go.Gm.content
  refine Sim.get fun rt => ?_
  cases rt with
  | rcd g' cs => exact Sim.fail
  | row g' e xs =>
   show Sim (TP.bind (if g' = g then _ else _) _) _ _
   by_cases hg : g' = g
   ·rw [if_pos hg]
    unfold TP.guard TP.bind
    refine Sim.test (fun hd => ?_) (fun _ => Sim.fail)
    have hd := ku hd
    have hcond : (TRoot.row g' e xs).raw.g = g ∧ (off + len) * (TRoot.row g' e xs).raw.es ≤ (TRoot.row g' e xs).raw.cells.length := ⟨hg, by
     show (off + len) * sz e ≤ (xs.flatMap (encB e)).length
     rw [za3 (zam e)]; exact ki _ hd⟩
    dsimp only
    rw [if_pos hcond]
    have := h e (win xs off len) (by rw [zfj hd]; rfl)
    rw [← zlw (zam e)] at this
    exact this
   ·rw [if_neg hg]; exact Sim.fail
 | _ => exact Sim.fail
theorem zapm : ∀ (vs : List Value), zkz (vs.map B.v) = some vs
 | [] => rfl
 | v :: vs => by simp only [qu, zkz, B.conc, zapm vs]
theorem zjg : ∀ (e : ETy) (x : den e), e.plain = true → encB e x = (encV e x).map B.v ∧ encC e x = (encV e x).map C.v
 | .int _, _, _ => ⟨rfl, rfl⟩
 | .bool, _, _ => ⟨rfl, rfl⟩
 | .str, _, _ => ⟨rfl, rfl⟩
 | .pair a b, x, h => by
  simp only [ETy.plain, qo] at h
  obtain ⟨h1, h2⟩ := zjg a x.1 h.1
  obtain ⟨h3, h4⟩ := zjg b x.2 h.2
  simp [encB, encC, encV, h1, h2, h3, h4]
 | .list _ _, _, h => by simp [ETy.plain] at h
theorem zji {e : ETy} (h : e.plain = true) (xs : List (den e)) : xs.flatMap (encB e) = (xs.flatMap (encV e)).map B.v ∧ xs.flatMap (encC e) = (xs.flatMap (encV e)).map C.v := by
 constructor
 ·rw [zef]; congr 1; funext x; exact (zjg e x h).1
 ·rw [zef]; congr 1; funext x; exact (zjg e x h).2
theorem zud (x : TB) : Sim (zss x) (zlp x.raw) TB.raw := by
 cases x with
 | ro e xs ex lo =>
  show Sim _ (zlp (.ro xs.length (xs.flatMap (encC e)) ex lo)) _
  exact Sim.ret rfl
 | rf r g off len =>
  show Sim _ (zlp (.rf r g off len)) TB.raw
  unfold zss zlp zgx content
  refine Sim.get fun rt => ?_
  cases rt with
  | rcd g' cs => exact Sim.fail
  | row g' e xs =>
   show Sim (TP.bind (if g' = g then _ else _) _) _ _
   by_cases hg : g' = g
   ·rw [if_pos hg]
    unfold TP.guard TP.bind
    refine Sim.test (fun hd => ?_) (fun _ => Sim.fail)
    have hd := ku hd
    have hcond : (TRoot.row g' e xs).raw.g = g ∧ (off + len) * (TRoot.row g' e xs).raw.es ≤ (TRoot.row g' e xs).raw.cells.length := ⟨hg, by
     show (off + len) * sz e ≤ (xs.flatMap (encB e)).length
     rw [za3 (zam e)]; exact ki _ hd⟩
    dsimp only
    rw [if_pos hcond]
    show Sim (if e.plain then _ else _) (match zkz (win (xs.flatMap (encB e)) (off * sz e) (len * sz e)) with | some vs => _ | none => _) _
    refine Sim.iteF fun hp => ?_
    rw [zlw (zam e), (zji hp _).1, zapm]
    refine Sim.del (Sim.ret ?_)
    have hl : (win xs off len).length = len := zfj hd
    simp only [TB.raw, (zji hp _).2, hl]
   ·rw [if_neg hg]; exact Sim.fail
 | int k z => exact Sim.ret rfl
 | bl t => exact Sim.ret rfl
 | bool t => exact Sim.ret rfl
 | str l => exact Sim.ret rfl
 | fn f => exact Sim.ret rfl
 | nf => exact Sim.ret rfl
 | skip => exact Sim.ret rfl
 | clo f ps => exact Sim.fail
 | pe r g e i fo => exact Sim.fail
 | pf r g fo => exact Sim.fail
 | pr e xs i fo lo => exact Sim.fail
 | dead => exact Sim.fail
theorem zaej (x : TB) : x.raw.closed = x.closed := by cases x <;> rfl
theorem zj8 : ∀ (l : List TB), Sim (znr l) (zlq (l.map TB.raw)) (List.map TB.raw)
 | [] => Sim.ret rfl
 | x :: xs => Sim.bind (zud x) fun y => Sim.bind (zj8 xs) fun ys => Sim.ret rfl
theorem zu2 (l : List TB) : (l.map TB.raw).all B.closed = l.all TB.closed := by
 rw [List.all_map]; congr 1; funext x; exact zaej x
theorem zue (l : List TB) : Sim (zyj l) (zfk (l.map TB.raw)) (List.map TB.raw) := by
 unfold zyj zfk
 rw [zu2]
 refine Sim.ite (fun h => Sim.pos h (Sim.ret rfl)) (fun h => Sim.neg h (zj8 l))
theorem zafj {t : TypeId} {p x : Option TV} {p' x' : Option V} (h : RelO p p') (hx : RelO x x') : Sim (zaun P t p x) (zgw P t p' x') TV.raw := by
 unfold zaun
 split
 ·rename_i r g fo cs hcs
  have hc := zlo hx hcs
  rw [h _ rfl]
  show Sim _ (zgw P t (some (.g (.b (.pt r g fo)))) x') _
  unfold zgw
  rw [hc]
  refine Sim.get fun rt0 => ?_
  cases rt0 with
  | row g0 e0 xs0 => exact Sim.fail
  | rcd g0 cs0 =>
   show Sim _ (Pr.get r _) _
   refine Sim.get fun rt => ?_
   cases rt with
   | row g0 e0 xs0 => exact Sim.fail
   | rcd g' old =>
    refine Sim.iteF fun ⟨c1, c2, c3, c4⟩ => Sim.pos ⟨c1, c2, by simpa using c3, by simpa [TRoot.raw] using c4⟩ (Sim.put ?_ (Sim.ret rfl))
    simp only [TRoot.raw, List.map_append, List.map_take, List.map_drop, km, ql, kp, kb]
    congr 1
    omega
 ·rename_i r g e i fo cs hcs
  have hc := zlo hx hcs
  rw [h _ rfl]
  show Sim _ (zgw P t (some (.g (.b (.pt r g (i * sz e + fo))))) x') _
  unfold zgw
  rw [hc]
  refine Sim.get fun rt0 => ?_
  cases rt0 with
  | rcd g0 cs0 => exact Sim.fail
  | row g0 e0 xs0 =>
   show Sim _ (Pr.bind (zfk (cs.map TB.raw)) _) _
   refine Sim.bind (zue cs) fun cs => Sim.get fun rt => ?_
   cases rt with
   | rcd g0 cs0 => exact Sim.fail
   | row g' e' xs1 =>
    refine Sim.iteF fun ⟨c1, c2, c3, c4⟩ => ?_
    cases hxs : zdg e' e xs1 with
    | none => exact Sim.fail
    | some xs =>
     obtain ⟨_, hB, _⟩ := zek hxs
     refine Sim.sub fun y hy => ?_
     cases hel : zvv e ((zf3 e y).take fo ++ (cs ++ (zf3 e y).drop (fo + cs.length))) with
     | none => exact Sim.fail
     | some z =>
      have hlt : i < xs.length := (qh.1 hy).1
      have hlen : (xs.flatMap (encB e)).length = xs.length * sz e := za3 (zam e) xs
      have hmul : (i + 1) * sz e ≤ xs.length * sz e := ki _ hlt
      rw [Nat.add_mul, Nat.one_mul] at hmul
      have hz := zjf hel
      simp only [List.map_append, List.map_take, List.map_drop, zeb] at hz
      have hcells : (TRoot.row g' e' xs1).raw.cells = xs.flatMap (encB e) := hB
      refine Sim.pos ⟨c1, c2, by simpa using c3, by rw [hcells, hlen]; simp; omega⟩ (Sim.put ?_ (Sim.ret rfl))
      rw [hcells]
      have := zaa1 (zam e) hy (y := z) (fo := fo) (cs := cs.map TB.raw) (by simpa using c4) (by simpa using hz.symm)
      rw [km] at this ⊢
      rw [this]
      have hes : sz e' = sz e := by
       rcases zaaq hxs with h | ⟨h1, h2⟩
       ·rw [h]
       ·subst h2; simp at hlt
      simp only [TRoot.raw, hes]
 ·exact Sim.fail
theorem zva {s : TypeId} {x : Option TV} {x' : Option V} {k : Nat} (h : RelO x x') : Sim (zny P s x k) (zfn P s x' k) TV.raw := by
 unfold zny zfn
 cases hu : P.underlying s with
 | none => exact Sim.fail
 | some d =>
  cases d <;> try exact Sim.fail
  rename_i fields
  simp only []
  cases hf : fields[k]? with
  | none => exact Sim.fail
  | some fl =>
   simp only []
   refine Sim.iteN fun hz => Sim.neg hz ?_
   split
   ·rename_i r g fo; rw [h _ rfl]; exact Sim.ret rfl
   ·rename_i r g e i fo; rw [h _ rfl]; exact Sim.ret (by simp [TV.raw, TG.raw, TB.raw, Nat.add_assoc])
   ·rename_i e xs i fo lo; rw [h _ rfl]; exact Sim.ret (by simp [TV.raw, TG.raw, TB.raw, List.drop_drop, Nat.add_assoc])
   ·exact Sim.fail
theorem zvb {t : TypeId} {x i : Option TV} {x' i' : Option V} (h : RelO x x') (hi : RelO i i') : Sim (zn3 P t x i) (zfo P t x' i') TV.raw := by
 unfold zn3
 split
 ·rename_i et n het hn
  unfold zfo
  rw [het, zp8 hi hn]
  simp only []
  split
  ·rename_i r g off len
   rw [h _ rfl]
   show Sim _ (Pr.get r _) _
   refine Sim.get fun rt => ?_
   cases rt with
   | rcd g' cs => exact Sim.fail
   | row g' e xs =>
    refine Sim.iteF fun ⟨c1, c2⟩ => Sim.guard fun hd => ?_
    have hd := ku hd
    exact Sim.pos ⟨c1, c2, hd.1, hd.2⟩ (Sim.ret rfl)
  ·rename_i e xs ex lo
   rw [h _ rfl]
   refine Sim.iteF fun ⟨c1, c2⟩ => Sim.guard fun hd => ?_
   have hd := ku hd
   show Sim _ (ite _ _ _) _
   refine Sim.pos ⟨c2, hd.1, hd.2, ?_⟩ (Sim.ret ?_)
   ·show n.toNat * P.cellsOf et < (xs.flatMap (encC e)).length
    rw [za3 (zby e), ← c1]
    have : n.toNat < xs.length := by omega
    exact Nat.mul_lt_mul_of_pos_right this (zpp e)
   ·simp only [TV.raw, TG.raw, TB.raw, c1, Nat.add_zero]
  ·exact Sim.fail
 ·exact Sim.fail
end
end Go.Gm
