import Derived.Test.YtppalpflejcjeaaGreatQGt8
namespace Go.Gm
set_option linter.unusedSimpArgs false
set_option linter.unusedVariables false
theorem Pr.bind_ret {α : Type} : ∀ (p : Pr α), p.bind Pr.ret = p
 | .ret a => rfl
 | .fail => rfl
 | .get r k => by simp only [Pr.bind]; congr 1; funext rt; exact Pr.bind_ret (k rt)
 | .put r rt k => by simp only [Pr.bind]; rw [Pr.bind_ret k]
 | .del r k => by simp only [Pr.bind]; rw [Pr.bind_ret k]
 | .mk r rt k => by simp only [Pr.bind]; rw [Pr.bind_ret k]
 | .peek r k => by simp only [Pr.bind]; congr 1; funext rt; exact Pr.bind_ret (k rt)
theorem Sim.bindR {α β γ : Type} {f : α → β} {g : γ → β} {p : TP γ} {q : Pr β} {k : γ → TP α} (h : Sim p q g) (hk : ∀ a, Sim (k a) (.ret (g a)) f) : Sim (p.bind k) q f := by
 have := Sim.bind (k' := Pr.ret) h hk
 rwa [Pr.bind_ret] at this
theorem sim_giveTB {fl : Option ETy} (x : TB) : Sim (giveTB fl x) (if fl.isSome then giveB x.raw else .ret x.raw) TB.raw := by
 cases fl with
 | none =>
  show Sim _ (Pr.ret x.raw) _
  cases x <;> exact Sim.ret rfl
 | some e =>
  show Sim _ (giveB x.raw) _
  cases x with
  | rf r g off len =>
   show Sim (TP.bind (closeTB (.rf r g off len)) _) (closeB (TB.rf r g off len).raw) _
   refine Sim.bindR (sim_closeTB (.rf r g off len)) fun y => ?_
   cases y <;> try exact Sim.fail
   rename_i e' xs ex lo
   show Sim (match castL e' e xs with | some ys => _ | none => _) _ _
   cases hc : castL e' e xs with
   | none => exact Sim.fail
   | some ys =>
    obtain ⟨h1, _, h3⟩ := castL_B hc
    exact Sim.ret (by simp only [TB.raw, h1, h3])
  | ro e' xs ex lo =>
   show Sim (match castL e' e xs with | some ys => _ | none => _) _ _
   cases hc : castL e' e xs with
   | none => exact Sim.fail
   | some ys =>
    obtain ⟨h1, _, h3⟩ := castL_B hc
    exact Sim.ret (by simp only [TB.raw, h1, h3])
  | _ => exact Sim.ret rfl
theorem sim_giveTBs {e : ETy} : ∀ (l : List TB), Sim (giveTBs (some e) l) (giveBs (l.map TB.raw)) (List.map TB.raw)
 | [] => Sim.ret rfl
 | x :: xs => Sim.bind (sim_giveTB (fl := some e) x) fun y => Sim.bind (sim_giveTBs xs) fun ys => Sim.ret rfl
theorem sim_giveTBs0 : ∀ (l : List TB), Sim (giveTBs none l) (.ret (l.map TB.raw)) (List.map TB.raw)
 | [] => Sim.ret rfl
 | x :: xs => by
  have h : Sim (giveTBs none (x :: xs)) ((Pr.ret x.raw).bind fun y => (Pr.ret (xs.map TB.raw)).bind fun ys => .ret (y :: ys)) (List.map TB.raw) :=
   Sim.bind (sim_giveTB (fl := none) x) fun y => Sim.bind (sim_giveTBs0 xs) fun ys => Sim.ret rfl
  exact h
theorem sim_giveTG {fl : Option ETy} (x : TG) : Sim (giveTG fl x) (giveG fl.isSome x.raw) TG.raw := by
 unfold giveG
 cases fl with
 | none =>
  show Sim _ (Pr.ret x.raw) _
  cases x with
  | b x =>
   have h : Sim (giveTG none (.b x)) ((Pr.ret x.raw).bind fun y => .ret (.b y)) TG.raw := Sim.bind (sim_giveTB (fl := none) x) fun y => Sim.ret rfl
   exact h
  | ag xs =>
   have h : Sim (giveTG none (.ag xs)) ((Pr.ret (xs.map TB.raw)).bind fun y => .ret (.ag y)) TG.raw := Sim.bind (sim_giveTBs0 xs) fun y => Sim.ret rfl
   exact h
 | some e =>
  cases x with
  | b x => exact Sim.bind (sim_giveTB (fl := some e) x) fun y => Sim.ret rfl
  | ag xs => exact Sim.bind (sim_giveTBs xs) fun y => Sim.ret rfl
theorem headD_map (l : List (Option ETy)) : (l.map Option.isSome).headD false = (l.headD none).isSome := by cases l <;> rfl
theorem sim_giveTGs : ∀ (fl : List (Option ETy)) (l : List TG), Sim (giveTGs fl l) (giveGs (fl.map Option.isSome) (l.map TG.raw)) (List.map TG.raw)
 | fl, [] => Sim.ret rfl
 | fl, x :: xs => by
  simp only [giveTGs, giveGs, List.map_cons, headD_map, ← List.map_tail]
  exact Sim.bind (sim_giveTG x) fun y => Sim.bind (sim_giveTGs fl.tail xs) fun ys => Sim.ret rfl
theorem sim_giveTV {fl : Option ETy} (x : TV) : Sim (giveTV fl x) (giveV fl.isSome x.raw) TV.raw := by
 cases x with
 | g x => exact Sim.bind (sim_giveTG x) fun y => Sim.ret rfl
 | cl f caps => exact Sim.ret rfl
 | tp xs => exact Sim.ret rfl
theorem sim_giveTVs : ∀ (fl : List (Option ETy)) (l : List TV), Sim (giveTVs fl l) (giveVs (fl.map Option.isSome) (l.map TV.raw)) (List.map TV.raw)
 | fl, [] => Sim.ret rfl
 | fl, x :: xs => by
  simp only [giveTVs, giveVs, List.map_cons, headD_map, ← List.map_tail]
  exact Sim.bind (sim_giveTV x) fun y => Sim.bind (sim_giveTVs fl.tail xs) fun ys => Sim.ret rfl
theorem cvals_v : ∀ (l : List Value), cvals (l.map C.v) = some l
 | [] => rfl
 | x :: xs => by simp only [List.map_cons, cvals, cvals_v xs, Option.map_some]
theorem toCs_append : ∀ {a b : List B} {x y : List C}, toCs a = some x → toCs b = some y → toCs (a ++ b) = some (x ++ y)
 | [], b, x, y, ha, hb => by simp only [toCs, Option.some.injEq] at ha; subst ha; exact hb
 | z :: a, b, x, y, ha, hb => by
  simp only [toCs] at ha
  split at ha
  ·rename_i c cs h1 h2
   cases ha
   simp only [List.cons_append, toCs, h1, toCs_append h2 hb]
  ·cases ha
theorem toCs_encB : ∀ (e : ETy) (x : den e), e.ok = true → toCs (encB e x) = some (encC e x)
 | .int _, _, _ => rfl
 | .bool, _, _ => rfl
 | .str, _, _ => rfl
 | .pair a b, x, h => by
  simp only [ETy.ok, Bool.and_eq_true] at h
  exact toCs_append (toCs_encB a _ h.1) (toCs_encB b _ h.2)
 | .list lo e, xs, h => by
  simp only [encB, encC, toCs, B.toC]
  rw [(flat_plain h xs).2, cvals_v]
  rfl
theorem toCs_flat {e : ETy} (h : e.ok = true) : ∀ (xs : List (den e)), toCs (xs.flatMap (encB e)) = some (xs.flatMap (encC e))
 | [] => rfl
 | x :: xs => by
  simp only [List.flatMap_cons]
  exact toCs_append (toCs_encB e x h) (toCs_flat h xs)
theorem sim_passTB {mode : Bool} (x : TB) : Sim (passTB mode x) (passB mode x.raw) TB.raw := by
 cases x with
 | rf r g off len =>
  show Sim (if mode then _ else _) (if mode then _ else _) _
  refine Sim.ite (fun h => Sim.pos h (Sim.ret rfl)) (fun h => Sim.neg h ?_)
  refine Sim.content (x := .rf r g off len) fun e xs hl => Sim.iteF fun hok => ?_
  rw [toCs_flat hok]
  have : len = xs.length := by simpa [TB.raw, lenB] using hl
  exact Sim.ret (by simp only [TB.raw, this])
 | _ => exact Sim.ret rfl
theorem sim_passTBs {mode : Bool} : ∀ (l : List TB), Sim (passTBs mode l) (passBs mode (l.map TB.raw)) (List.map TB.raw)
 | [] => Sim.ret rfl
 | x :: xs => Sim.bind (sim_passTB x) fun y => Sim.bind (sim_passTBs xs) fun ys => Sim.ret rfl
theorem sim_passTG {mode : Bool} (x : TG) : Sim (passTG mode x) (passG mode x.raw) TG.raw := by
 cases x with
 | b x => exact Sim.bind (sim_passTB x) fun y => Sim.ret rfl
 | ag xs => exact Sim.bind (sim_passTBs xs) fun y => Sim.ret rfl
theorem sim_passTGs {mode : Bool} : ∀ (l : List TG), Sim (passTGs mode l) (passGs mode (l.map TG.raw)) (List.map TG.raw)
 | [] => Sim.ret rfl
 | x :: xs => Sim.bind (sim_passTG x) fun y => Sim.bind (sim_passTGs xs) fun ys => Sim.ret rfl
theorem oneE_raw {x : TB} {e : ETy} {v : den e} (h : oneE x = some ⟨e, v⟩) : x.raw.toC.map (fun c => [c]) = some (encC e v) ∧ e.ok = true := by
 cases x <;> simp only [oneE, Option.some.injEq, Sigma.mk.injEq] at h <;> try (cases h; done)
 case int k z => obtain ⟨rfl, h⟩ := h; cases h; exact ⟨rfl, rfl⟩
 case bl t => obtain ⟨rfl, h⟩ := h; cases h; exact ⟨rfl, rfl⟩
 case bool t => obtain ⟨rfl, h⟩ := h; cases h; exact ⟨rfl, rfl⟩
 case str l => obtain ⟨rfl, h⟩ := h; cases h; exact ⟨rfl, rfl⟩
 case ro e' xs ex lo =>
  split at h
  ·rename_i hp
   cases h
   refine ⟨?_, hp⟩
   show ((cvals (xs.flatMap (encC e'))).map (C.sl lo xs.length)).map (fun c => [c]) = _
   rw [(flat_plain hp xs).2, cvals_v]
   rfl
  ·cases h
theorem toCs_one {b : B} {c : List C} (h : b.toC.map (fun c => [c]) = some c) (l : List B) : toCs (b :: l) = (toCs l).map (c ++ ·) := by
 cases hb : b.toC with
 | none => rw [hb] at h; cases h
 | some d =>
  rw [hb] at h
  cases h
  simp only [toCs, hb]
  cases toCs l <;> rfl
theorem recE_raw : ∀ {cs : List TB} {e : ETy} {v : den e}, recE cs = some ⟨e, v⟩ → toCs (cs.map TB.raw) = some (encC e v) ∧ e.ok = true
 | [], e, v, h => by cases h
 | [x], e, v, h => by
  obtain ⟨h1, h2⟩ := oneE_raw (show oneE x = some ⟨e, v⟩ from h)
  refine ⟨?_, h2⟩
  rw [List.map_cons, toCs_one h1]
  simp [toCs]
 | x :: y :: t, e, v, h => by
  unfold recE at h
  simp only [] at h
  split at h
  ·rename_i a u b w h1 h2
   cases h
   obtain ⟨g1, g2⟩ := oneE_raw h1
   obtain ⟨g3, g4⟩ := recE_raw h2
   refine ⟨?_, by simp only [ETy.ok, g2, g4, Bool.and_self]⟩
   rw [List.map_cons, toCs_one g1, g3]
   rfl
  ·cases h
theorem sim_lendTB (x : TB) : Sim (lendTB x) (lendB x.raw) TB.raw := by
 cases x with
 | pf r g fo =>
  show Sim _ (lendB (.pt r g fo)) _
  unfold lendTB lendB
  refine Sim.get fun rt => ?_
  cases rt with
  | row g' e xs => exact Sim.fail
  | rcd g' cs =>
   refine Sim.iteF fun hg => Sim.pos hg ?_
   show Sim (match recE cs with | some ⟨e, v⟩ => _ | none => _) (match toCs (cs.map TB.raw) with | some cs => _ | none => _) _
   cases hr : recE cs with
   | none => exact Sim.fail
   | some p =>
    obtain ⟨e, v⟩ := p
    rw [(recE_raw hr).1]
    refine Sim.iteF fun h0 => ?_
    subst h0
    refine Sim.ret ?_
    simp [TB.raw]
 | pe r g e i fo => exact Sim.fail
 | int k z => exact sim_passTB (mode := false) (.int k z)
 | bl t => exact sim_passTB (mode := false) (.bl t)
 | bool t => exact sim_passTB (mode := false) (.bool t)
 | str l => exact sim_passTB (mode := false) (.str l)
 | fn f => exact sim_passTB (mode := false) (.fn f)
 | ro e xs ex lo => exact sim_passTB (mode := false) (.ro e xs ex lo)
 | rf r g off len => exact sim_passTB (mode := false) (.rf r g off len)
 | pr e xs i fo lo => exact sim_passTB (mode := false) (.pr e xs i fo lo)
 | clo f ps => exact sim_passTB (mode := false) (.clo f ps)
 | nf => exact sim_passTB (mode := false) (.nf)
 | skip => exact sim_passTB (mode := false) (.skip)
 | dead => exact sim_passTB (mode := false) (.dead)
theorem sim_lendTG (x : TG) : Sim (lendTG x) (lendG x.raw) TG.raw := by
 cases x with
 | b x => exact Sim.bind (sim_lendTB x) fun y => Sim.ret rfl
 | ag xs => exact Sim.bind (sim_passTBs xs) fun y => Sim.ret rfl
theorem sim_lendTGs : ∀ (l : List TG), Sim (lendTGs l) (lendGs (l.map TG.raw)) (List.map TG.raw)
 | [] => Sim.ret rfl
 | x :: xs => Sim.bind (sim_lendTG x) fun y => Sim.bind (sim_lendTGs xs) fun ys => Sim.ret rfl
theorem sim_passTV {mode : Bool} (x : TV) : Sim (passTV mode x) (passV mode x.raw) TV.raw := by
 cases x with
 | g x => exact Sim.bind (sim_passTG x) fun y => Sim.ret rfl
 | cl f caps =>
  cases mode with
  | true => exact Sim.bind (sim_lendTGs caps) fun y => Sim.ret rfl
  | false => exact Sim.bind (sim_passTGs caps) fun y => Sim.ret rfl
 | tp xs => exact Sim.fail
theorem sim_passAllT : ∀ (ms : List Bool) (l : List TV), Sim (passAllT ms l) (passAll ms (l.map TV.raw)) (List.map TV.raw)
 | ms, [] => Sim.ret rfl
 | ms, x :: xs => Sim.bind (sim_passTV x) fun y => Sim.bind (sim_passAllT ms.tail xs) fun ys => Sim.ret rfl
def rawIds (ids : TIds) : Ids := ids.map fun p => (p.1, p.2.raw)
theorem refs_raw (x : TB) : refsB x.raw = x.refs := by cases x <;> rfl
theorem refsTG_raw (x : TG) : refsG x.raw = x.refs := by
 cases x with
 | b x => exact refs_raw x
 | ag xs => simp only [TG.raw, refsG, TG.refs, List.flatMap_map]; congr 1; funext x; exact refs_raw x
theorem refsTV_raw (x : TV) : refsV x.raw = x.refs := by
 cases x with
 | g x => exact refsTG_raw x
 | cl f caps => simp only [TV.raw, refsV, TV.refs, List.flatMap_map]; congr 1; funext x; exact refsTG_raw x
 | tp xs => simp only [TV.raw, refsV, TV.refs, List.flatMap_map]; congr 1; funext x; exact refsTG_raw x
theorem refsRoot_raw (rt : TRoot) : rt.raw.refs = rt.refs := by
 cases rt with
 | row g e xs => rfl
 | rcd g cs =>
  show (if false then [] else (cs.map TB.raw).flatMap refsB) = cs.flatMap TB.refs
  rw [if_neg (by simp), List.flatMap_map]; congr 1; funext x; exact refs_raw x
theorem g_raw (rt : TRoot) : rt.raw.g = rt.g := by cases rt <;> rfl
theorem sim_reachT : ∀ (k : Nat) (todo : List Nat) (acc : TIds), Sim (reachT k todo acc) (reachP k todo (rawIds acc)) rawIds
 | k, [], acc => by cases k <;> exact Sim.ret rfl
 | 0, _ :: _, acc => Sim.fail
 | k + 1, r :: todo, acc => by
  simp only [reachT, reachP]
  have hany : (rawIds acc).any (fun p => p.1 == r) = acc.any (fun p => p.1 == r) := by
   unfold rawIds; rw [List.any_map]; rfl
  rw [hany]
  refine Sim.ite (fun h => Sim.pos h (sim_reachT k todo acc)) (fun h => Sim.neg h ?_)
  refine Sim.peek fun rt => ?_
  cases rt with
  | none => exact sim_reachT k todo acc
  | some rt =>
   have := sim_reachT k (rt.refs ++ todo) (acc ++ [(r, rt)])
   have e : rawIds (acc ++ [(r, rt)]) = rawIds acc ++ [(r, rt.raw)] := by simp [rawIds]
   rw [e] at this
   show Sim _ (reachP k (rt.raw.refs ++ todo) (rawIds acc ++ [(r, rt.raw)])) _
   rw [refsRoot_raw]
   exact this
theorem sim_paramsT : ∀ (m j : Nat), Sim (paramsT m j) (paramsP m j) rawIds
 | 0, j => Sim.ret rfl
 | m + 1, j => Sim.get fun rt => Sim.bind (sim_paramsT m (j + 1)) fun ids => Sim.ret rfl
theorem sim_idsOfT (m : Nat) (vs : List TV) : Sim (idsOfT m vs) (idsOf m (vs.map TV.raw)) rawIds := by
 refine Sim.bind (sim_paramsT m 0) fun ps => ?_
 have e1 : (rawIds ps).flatMap (fun p => p.2.refs) = ps.flatMap (fun p => p.2.refs) := by
  unfold rawIds; rw [List.flatMap_map]; congr 1; funext p; exact refsRoot_raw p.2
 have e2 : (vs.map TV.raw).flatMap refsV = vs.flatMap TV.refs := by
  rw [List.flatMap_map]; congr 1; funext v; exact refsTV_raw v
 rw [e1, e2]
 exact sim_reachT _ _ ps
theorem findT_raw : ∀ (ids : TIds) (r k : Nat), findId (rawIds ids) r k = (findT ids r k).map fun p => (p.1, p.2.raw)
 | [], r, k => rfl
 | (r', rt) :: ids, r, k => by
  show (if r' = r then some (k, rt.raw) else findId (rawIds ids) r (k + 1)) = _
  simp only [findT]
  split
  ·rfl
  ·exact findT_raw ids r (k + 1)
theorem ren_raw (keep : Nat) (ids : TIds) (x : TB) : (x.mapR (renT keep ids)).raw = renB keep (rawIds ids) x.raw := by
 have key : ∀ r g, (match findId (rawIds ids) r 0 with
   | some (j, rt) => if rt.g = g then some (j, if j < keep then min g 1 else 0) else none
   | none => none) = renT keep ids r g := by
  intro r g
  rw [findT_raw]
  unfold renT
  cases findT ids r 0 with
  | none => rfl
  | some p => simp only [Option.map_some, g_raw]
 cases x <;> try rfl
 case rf r g off len =>
  simp only [TB.mapR, TB.raw, renB]
  rw [← key r g]
  cases hf : findId (rawIds ids) r 0 with
  | none => rfl
  | some p =>
   simp only []
   by_cases hg : p.2.g = g
   ·simp only [if_pos hg]
   ·simp only [if_neg hg]
 case pe r g e i fo =>
  simp only [TB.mapR, TB.raw, renB]
  rw [← key r g]
  cases hf : findId (rawIds ids) r 0 with
  | none => rfl
  | some p =>
   simp only []
   by_cases hg : p.2.g = g
   ·simp only [if_pos hg]
   ·simp only [if_neg hg]
 case pf r g fo =>
  simp only [TB.mapR, TB.raw, renB]
  rw [← key r g]
  cases hf : findId (rawIds ids) r 0 with
  | none => rfl
  | some p =>
   simp only []
   by_cases hg : p.2.g = g
   ·simp only [if_pos hg]
   ·simp only [if_neg hg]
 case clo f ps =>
  have e : (fun p : Nat × Nat × Nat => (renT keep ids p.1 p.2.1).map fun q => (q.1, q.2, p.2.2)) = renP keep (rawIds ids) := by
   funext p
   rw [← key p.1 p.2.1]
   unfold renP
   cases hf : findId (rawIds ids) p.1 0 with
   | none => rfl
   | some q =>
    simp only []
    by_cases hg : q.2.g = p.2.1
    ·simp only [if_pos hg, Option.map_some]
    ·simp only [if_neg hg, Option.map_none]
  simp only [TB.mapR, TB.raw, renB]
  rw [e]
  cases optAll (renP keep (rawIds ids)) ps <;> rfl
theorem renTG_raw (keep : Nat) (ids : TIds) (x : TG) : (x.mapR (renT keep ids)).raw = renG keep (rawIds ids) x.raw := by
 cases x with
 | b x => simp only [TG.mapR, TG.raw, renG, ren_raw]
 | ag xs => simp only [TG.mapR, TG.raw, renG, List.map_map]; congr 2; funext x; exact ren_raw keep ids x
theorem renTV_raw (keep : Nat) (ids : TIds) (x : TV) : (x.mapR (renT keep ids)).raw = renV keep (rawIds ids) x.raw := by
 cases x with
 | g x => simp only [TV.mapR, TV.raw, renV, renTG_raw]
 | cl f caps => simp only [TV.mapR, TV.raw, renV, List.map_map]; congr 2; funext x; exact renTG_raw keep ids x
 | tp xs => simp only [TV.mapR, TV.raw, renV, List.map_map]; congr 2; funext x; exact renTG_raw keep ids x
theorem tabOfT_raw (keep : Nat) (all : TIds) : ∀ (j : Nat) (ids : TIds), rawTab (tabOfT keep all j ids) = tabOf keep (rawIds all) j (rawIds ids)
 | j, [] => rfl
 | j, (r, rt) :: ids => by
  have ih := tabOfT_raw keep all (j + 1) ids
  show TEnt.raw (.live (rt.mapR (renT keep all) (if j < keep then min rt.g 1 else 0))) :: rawTab (tabOfT keep all (j + 1) ids) = Ent.live (renRoot keep (rawIds all) j rt.raw) :: tabOf keep (rawIds all) (j + 1) (rawIds ids)
  rw [ih]
  congr 2
  cases rt with
  | row g e xs => rfl
  | rcd g cs =>
   have : (cs.map (TB.mapR (renT keep all))).map TB.raw = (cs.map TB.raw).map (renB keep (rawIds all)) := by
    rw [List.map_map, List.map_map]; congr 1; funext x; exact ren_raw keep all x
   show Ent.live ⟨_, (cs.map (TB.mapR (renT keep all))).length, false, (cs.map (TB.mapR (renT keep all))).map TB.raw⟩ = Ent.live ⟨_, _, false, if false then _ else (cs.map TB.raw).map (renB keep (rawIds all))⟩
   rw [this, List.length_map]
   rfl
theorem sub_raw (ids : TIds) (base : Nat) (x : TB) : (x.mapR (subT ids base)).raw = subB (rawIds ids) base x.raw := by
 have hg : ∀ j : Nat, (rawIds ids)[j]? = (ids[j]?).map fun (p : Nat × TRoot) => (p.1, p.2.raw) := fun j => by unfold rawIds; rw [List.getElem?_map]
 have hl : (rawIds ids).length = ids.length := by unfold rawIds; simp
 cases x <;> try rfl
 case rf r g off len =>
  simp only [TB.mapR, TB.raw, subB, hg, subT, hl]
  cases ids[r]? with
  | none => rfl
  | some p => simp only [Option.map_some, g_raw]
 case pe r g e i fo =>
  simp only [TB.mapR, TB.raw, subB, hg, subT, hl]
  cases ids[r]? with
  | none => rfl
  | some p => simp only [Option.map_some, g_raw]
 case pf r g fo =>
  simp only [TB.mapR, TB.raw, subB, hg, subT, hl]
  cases ids[r]? with
  | none => rfl
  | some p => simp only [Option.map_some, g_raw]
 case clo f ps =>
  have key : ∀ ps : List (Nat × Nat × Nat), optAll (fun p : Nat × Nat × Nat => (subT ids base p.1 p.2.1).map fun q => (q.1, q.2, p.2.2)) ps = some (ps.map (subP (rawIds ids) base)) := by
   intro ps
   induction ps with
   | nil => rfl
   | cons p ps ih =>
    have e : (subT ids base p.1 p.2.1).map (fun q => (q.1, q.2, p.2.2)) = some (subP (rawIds ids) base p) := by
     unfold subT subP
     simp only [hg, hl]
     cases ids[p.1]? with
     | none => rfl
     | some q => simp only [Option.map_some, g_raw]
    simp only [optAll, e, ih, List.map_cons]
  simp only [TB.mapR, TB.raw, subB]
  rw [key]
theorem subTG_raw (ids : TIds) (base : Nat) (x : TG) : (x.mapR (subT ids base)).raw = subG (rawIds ids) base x.raw := by
 cases x with
 | b x => simp only [TG.mapR, TG.raw, subG, sub_raw]
 | ag xs => simp only [TG.mapR, TG.raw, subG, List.map_map]; congr 2; funext x; exact sub_raw ids base x
theorem subTV_raw (ids : TIds) (base : Nat) (x : TV) : (x.mapR (subT ids base)).raw = subV (rawIds ids) base x.raw := by
 cases x with
 | g x => simp only [TV.mapR, TV.raw, subV, subTG_raw]
 | cl f caps => simp only [TV.mapR, TV.raw, subV, List.map_map]; congr 2; funext x; exact subTG_raw ids base x
 | tp xs => simp only [TV.mapR, TV.raw, subV, List.map_map]; congr 2; funext x; exact subTG_raw ids base x
end Go.Gm
