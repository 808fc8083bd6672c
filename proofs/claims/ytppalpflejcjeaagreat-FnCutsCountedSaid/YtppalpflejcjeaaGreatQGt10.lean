import Derived.Test.YtppalpflejcjeaaGreatQGt9
namespace Go.Gm
set_option linter.unusedSimpArgs false
set_option linter.unusedVariables false
theorem subRoot_raw (ids : TIds) (base : Nat) (rt : TRoot) (g : Nat) : (rt.mapR (subT ids base) g).raw = { subRoot (rawIds ids) base rt.raw with g := g } := by
 cases rt with
 | row g0 e xs => rfl
 | rcd g0 cs =>
  have : (cs.map (TB.mapR (subT ids base))).map TB.raw = (cs.map TB.raw).map (subB (rawIds ids) base) := by
   rw [List.map_map, List.map_map]; congr 1; funext x; exact sub_raw ids base x
  show (⟨g, (cs.map (TB.mapR (subT ids base))).length, false, (cs.map (TB.mapR (subT ids base))).map TB.raw⟩ : Root) = ⟨g, cs.length, false, if false then cs.map TB.raw else (cs.map TB.raw).map (subB (rawIds ids) base)⟩
  rw [this, List.length_map]
  rfl
theorem subRoot_raw' (ids : TIds) (base : Nat) (rt : TRoot) : (rt.mapR (subT ids base) rt.g).raw = subRoot (rawIds ids) base rt.raw := by
 rw [subRoot_raw, ← g_raw]; rfl
theorem sim_backT (all : TIds) (base : Nat) : ∀ (ids : TIds) (j : Nat) (R : TTab), Sim (backT all base ids j R) (backP (rawIds all) base (rawIds ids) j (rawTab R)) id
 | (r, rt0) :: ids, j, .live rt :: R => by
  show Sim (.put r (rt.mapR (subT all base) (rt0.g + rt.g)) (backT all base ids j R)) (.put r { subRoot (rawIds all) base rt.raw with g := rt0.raw.g + rt.raw.g } (backP (rawIds all) base (rawIds ids) j (rawTab R))) _
  refine Sim.put ?_ (sim_backT all base ids j R)
  rw [subRoot_raw, g_raw, g_raw]
 | (r, rt0) :: ids, j, .fresh :: R => Sim.fail
 | (r, rt0) :: ids, j, .dead :: R => Sim.fail
 | (r, rt0) :: ids, j, [] => Sim.fail
 | [], j, .live rt :: R => by
  show Sim (if j < 4 then _ else _) (if j < 4 then Pr.mk (base + j) (subRoot (rawIds all) base rt.raw) (backP (rawIds all) base [] (j + 1) (rawTab R)) else _) _
  refine Sim.iteF fun h => Sim.pos h ?_
  exact Sim.mk (subRoot_raw' all base rt).symm (sim_backT all base [] (j + 1) R)
 | [], j, .fresh :: R => Sim.fail
 | [], j, .dead :: R => Sim.fail
 | [], j, [] => Sim.ret rfl
theorem snaps_raw (mode : Bool) (x : TB) : snapsB mode x.raw = snapsTB mode x := by cases x <;> rfl
theorem snapsTG_raw (mode : Bool) (x : TG) : snapsG mode x.raw = snapsTG mode x := by
 cases x with
 | b x => exact snaps_raw mode x
 | ag xs => simp only [TG.raw, snapsG, snapsTG, List.flatMap_map]; congr 1; funext x; exact snaps_raw mode x
theorem lentTG_raw (x : TG) : lentG x.raw = lentTG x := by
 cases x with
 | b x => cases x <;> rfl
 | ag xs => exact snapsTG_raw false (.ag xs)
theorem snapsTV_raw (mode : Bool) (x : TV) : snapsV mode x.raw = snapsTV mode x := by
 cases x with
 | g x => exact snapsTG_raw mode x
 | cl f caps => simp only [TV.raw, snapsV, snapsTV, List.flatMap_map]; congr 1; funext x
                cases mode with
                | true => exact lentTG_raw x
                | false => exact snapsTG_raw false x
 | tp xs => rfl
theorem snapsAllT_raw : ∀ (ms : List Bool) (l : List TV), snapsAll ms (l.map TV.raw) = snapsAllT ms l
 | ms, [] => rfl
 | ms, x :: xs => by simp only [List.map_cons, snapsAll, snapsAllT, snapsTV_raw, snapsAllT_raw ms.tail xs]
theorem apartT_raw (ids : TIds) (l : List Nat) : apartFrom (rawIds ids) l = apartT ids l := by
 unfold apartFrom apartT
 congr 1
 funext r
 unfold rawIds
 rw [List.any_map]
 rfl
theorem encC_back : ∀ (e : ETy) (x : den e), e.back = true → ∀ c ∈ encC e x, c.retOK = true
 | .int k, z, _, c, hc => by simp only [encC, List.mem_singleton] at hc; subst hc; rfl
 | .bool, t, _, c, hc => by simp only [encC, List.mem_singleton] at hc; subst hc; rfl
 | .str, l, _, c, hc => by simp only [encC, List.mem_singleton] at hc; subst hc; rfl
 | .pair a b, x, h, c, hc => by
  simp only [ETy.back, Bool.and_eq_true] at h
  simp only [encC, List.mem_append] at hc
  rcases hc with hc | hc
  ·exact encC_back a _ h.1 c hc
  ·exact encC_back b _ h.2 c hc
 | .list lo e, xs, h, c, hc => by
  simp only [ETy.back, Bool.and_eq_true] at h
  simp only [encC, List.mem_singleton] at hc
  subst hc
  exact h.1
theorem encB_back : ∀ (e : ETy) (x : den e), e.back = true → ∀ c ∈ encB e x, c.retOK = true
 | .int k, z, _, c, hc => by simp only [encB, List.mem_singleton] at hc; subst hc; rfl
 | .bool, t, _, c, hc => by simp only [encB, List.mem_singleton] at hc; subst hc; rfl
 | .str, l, _, c, hc => by simp only [encB, List.mem_singleton] at hc; subst hc; rfl
 | .pair a b, x, h, c, hc => by
  simp only [ETy.back, Bool.and_eq_true] at h
  simp only [encB, List.mem_append] at hc
  rcases hc with hc | hc
  ·exact encB_back a _ h.1 c hc
  ·exact encB_back b _ h.2 c hc
 | .list lo e, xs, h, c, hc => by
  simp only [ETy.back, Bool.and_eq_true] at h
  simp only [encB, List.mem_singleton] at hc
  subst hc
  show (lo && (xs.flatMap (encC e)).all C.retOK) = true
  rw [Bool.and_eq_true, List.all_eq_true]
  refine ⟨h.1, fun c hc => ?_⟩
  obtain ⟨x, _, hx⟩ := List.mem_flatMap.1 hc
  exact encC_back e x h.2 c hx
theorem retOK_raw (x : TB) (h : x.retOK = true) : x.raw.retOK = true := by
 cases x with
 | ro e xs ex lo =>
  simp only [TB.retOK, Bool.and_eq_true] at h
  show (lo && (xs.flatMap (encC e)).all C.retOK) = true
  rw [Bool.and_eq_true, List.all_eq_true]
  refine ⟨h.1, fun c hc => ?_⟩
  obtain ⟨x, _, hx⟩ := List.mem_flatMap.1 hc
  exact encC_back e x h.2 c hx
 | pr e xs i fo lo => cases h
 | _ => rfl
theorem allOK_raw {X Y : Type} {f : X → Y} {p : X → Bool} {q : Y → Bool} (hpq : ∀ x, p x = true → q (f x) = true) {l : List X} (h : l.all p = true) : (l.map f).all q = true := by
 rw [List.all_eq_true] at h ⊢
 intro y hy
 obtain ⟨x, hx, rfl⟩ := List.mem_map.1 hy
 exact hpq x (h x hx)
theorem retOKG_raw (x : TG) (h : x.retOK = true) : x.raw.retOK = true := by
 cases x with
 | b x => exact retOK_raw x h
 | ag xs => exact allOK_raw retOK_raw h
theorem retOKV_raw (x : TV) (h : x.retOK = true) : x.raw.retOK = true := by
 cases x with
 | g x => exact retOKG_raw x h
 | cl f caps => exact allOK_raw retOKG_raw h
 | tp xs => exact allOK_raw retOKG_raw h
theorem retOKE_raw (x : TEnt) (h : x.retOK = true) : x.raw.retOK = true := by
 cases x with
 | fresh => rfl
 | dead => rfl
 | live rt =>
  cases rt with
  | row g e xs =>
   show (xs.flatMap (encB e)).all B.retOK = true
   rw [List.all_eq_true]
   intro c hc
   obtain ⟨x, _, hx⟩ := List.mem_flatMap.1 hc
   exact encB_back e x h c hx
  | rcd g cs => exact allOK_raw retOK_raw h
theorem retOKTab_raw (R : TTab) (h : R.all TEnt.retOK = true) : (rawTab R).all Ent.retOK = true := allOK_raw retOKE_raw h
theorem Sim.ofT {α β γ : Type} {g : γ → β} {t : T α} {k : α → TP γ} {q : Pr β} (h : ∀ a, t.run = some a → Sim (k a) q g) : Sim ((TP.ofT t).bind k) q g := by
 induction t with
 | ret a => exact h a rfl
 | fail => exact Sim.fail
 | test c x y ihx ihy =>
  refine Sim.test (fun hc => ihx fun a ha => h a ?_) (fun hc => ihy fun a ha => h a ?_)
  ·simp only [T.run, hc, if_true]; exact ha
  ·simp only [T.run, hc, Bool.false_eq_true, if_false]; exact ha
 | sub x f ih => exact Sim.sub fun b hb => ih b fun a ha => h a (by simp only [T.run, hb, Option.bind_some]; exact ha)
def LibR (L : List TV → TTab → T (TV × TTab)) (F : List V → Tab → Option (V × Tab)) : Prop := ∀ args R v R', (L args R).run = some (v, R') → F (args.map TV.raw) (rawTab R) = some (v.raw, rawTab R')
theorem sim_callT {L : List TV → TTab → T (TV × TTab)} {rec : FuncId → List V → Tab → Option (V × Tab)} {f : FuncId} (hL : LibR L (rec f)) (gives : List (Option ETy)) (mode : List Bool) (args : List TV) (base : Nat) :
  Sim (callT L gives mode args base) (callP rec (gives.map Option.isSome) mode f (args.map TV.raw) base) TV.raw := by
 unfold callT callP
 refine Sim.bind (sim_giveTVs gives args) fun args1 => Sim.bind (sim_passAllT mode args1) fun args2 => Sim.bind (sim_idsOfT 0 args2) fun ids => ?_
 refine Sim.iteF fun hap => Sim.pos (by rw [snapsAllT_raw, apartT_raw]; exact hap) ?_
 refine Sim.ofT fun r hr => ?_
 have h1 := hL _ _ r.1 r.2 hr
 have e1 : (args2.map (TV.mapR (renT 0 ids))).map TV.raw = (args2.map TV.raw).map (renV 0 (rawIds ids)) := by
  rw [List.map_map, List.map_map]; congr 1; funext x; exact renTV_raw 0 ids x
 rw [e1, tabOfT_raw] at h1
 rw [h1]
 refine Sim.iteF fun hok => Sim.pos (by rw [Bool.and_eq_true] at hok ⊢; exact ⟨retOKV_raw _ hok.1, retOKTab_raw _ hok.2⟩) ?_
 exact Sim.bind (sim_backT ids base ids 0 r.2) fun _ => Sim.ret (subTV_raw ids base r.1)
def TEnv.env (E : TEnv) : Env := { P := E.P, lib := fun _ => none, modes := E.modes, gives := fun f => (E.gives f).map Option.isSome, keep := fun _ _ => [] }
def TEnv.LibOK (E : TEnv) : Prop := ∀ f L, E.lib f = some L → LibR L (E.raw f)
theorem evArgsT_raw {ev : Operand → Option TV} {ev' : Operand → Option V} (hev : EvR ev ev') : ∀ {l : List Operand} {xs : List TV}, evArgsT ev l = some xs → evArgs ev' l = some (xs.map TV.raw)
 | [], xs, h => by simp only [evArgsT, Option.some.injEq] at h; subst h; rfl
 | x :: l, xs, h => by
  simp only [evArgsT] at h
  split at h
  ·rename_i y ys hy hys
   cases h
   simp only [evArgs, hev x y hy, evArgsT_raw hev hys, List.map_cons]
  ·cases h
theorem sim_opT {E : TEnv} (hlib : E.LibOK) {o : Oper} {ev : Operand → Option TV} {ev' : Operand → Option V} {base : Nat} (hev : EvR ev ev') : Sim (opT E o ev base) (opP E.env E.raw o ev' base) TV.raw := by
 obtain ⟨dst, op, type, pos, after, guard⟩ := o
 unfold opT opP
 split
 ·rename_i x args argTypes heq
  simp only at heq
  subst heq
  simp only []
  split
  ·rename_i f as hx has
   have e1 := hev x _ hx
   simp only [TV.raw, TG.raw, TB.raw] at e1
   rw [e1, evArgsT_raw hev has]
   cases hL : E.lib f with
   | none => exact Sim.fail
   | some L => exact Sim.pos ⟨rfl, rfl⟩ (sim_callT (hlib f L hL) _ _ as base)
  ·rename_i f caps as hx has
   have e1 := hev x _ hx
   simp only [TV.raw] at e1
   rw [e1, evArgsT_raw hev has]
   cases hL : E.lib f with
   | none => exact Sim.fail
   | some L =>
    have := sim_callT (hlib f L hL) (E.gives f) (E.modes f) (as ++ caps.map .g) base
    have e2 : (as ++ caps.map TV.g).map TV.raw = as.map TV.raw ++ (caps.map TG.raw).map V.g := by
     rw [List.map_append, List.map_map, List.map_map]; rfl
    rw [e2] at this
    exact this
  ·rename_i f ps as hx has
   have e1 := hev x _ hx
   simp only [TV.raw, TG.raw, TB.raw] at e1
   rw [e1, evArgsT_raw hev has]
   cases hL : E.lib f with
   | none => exact Sim.fail
   | some L =>
    have := sim_callT (hlib f L hL) (E.gives f) (E.modes f) (as ++ ps.map fun p => .g (.b (.pf p.1 p.2.1 p.2.2))) base
    have e2 : (as ++ ps.map fun p : Nat × Nat × Nat => TV.g (.b (.pf p.1 p.2.1 p.2.2))).map TV.raw = as.map TV.raw ++ ps.map fun p => V.g (.b (.pt p.1 p.2.1 p.2.2)) := by
     rw [List.map_append, List.map_map]; rfl
    rw [e2] at this
    exact this
  ·exact Sim.fail
 ·rename_i hn
  have := sim_actT (P := E.P) (o := ⟨dst, op, type, pos, after, guard⟩) (base := base) hev
  cases op <;> try exact this
  rename_i c
  obtain ⟨callee, args, argTypes⟩ := c
  cases callee <;> first
   | exact this
   | (exact absurd rfl (hn _ _ _))
def rawSlots (s : TSlots) : Slots := s.map fun p => (p.1, p.2.raw)
theorem lookT_raw : ∀ (s : TSlots) (t : Nat), look (rawSlots s) t = (lookT s t).map TV.raw
 | [], t => rfl
 | (d, v) :: s, t => by
  show (if d = t then some v.raw else look (rawSlots s) t) = _
  simp only [lookT]
  split
  ·rfl
  ·exact lookT_raw s t
theorem putT_raw (s : TSlots) (dst : Option Tmp) (v : TV) : rawSlots (putT s dst v) = putS (rawSlots s) dst v.raw := by cases dst <;> rfl
theorem evT_slots (s : TSlots) : EvR (evT (lookT s)) (evOf (look (rawSlots s))) := evT_raw fun t v h => by rw [lookT_raw, h]; rfl
theorem knowT_raw {d : Nat} {b : Bool} : ∀ {s : TSlots}, lookT s d = some (.g (.b (.bool b))) → rawSlots (knowT d b s) = rawSlots s
 | [], h => by cases h
 | (d', v) :: s, h => by
  simp only [lookT] at h
  simp only [knowT]
  split at h
  ·rename_i e
   cases h
   rw [if_pos e]; rfl
  ·rename_i e
   rw [if_neg e]
   show (d', v.raw) :: rawSlots (knowT d b s) = (d', v.raw) :: rawSlots s
   rw [knowT_raw h]
theorem guardT_raw {ops : Array Oper} {s : TSlots} {o : Oper} {b : Bool} {s' : TSlots} (h : (guardT ops s o).run = some (b, s')) : guardOf ops (look (rawSlots s)) o = some b ∧ rawSlots s' = rawSlots s := by
 unfold guardT at h
 unfold guardOf
 split at h
 ·rename_i hg
  rw [hg]
  simp only [T.run, Option.some.injEq, Prod.mk.injEq] at h
  obtain ⟨rfl, rfl⟩ := h
  exact ⟨rfl, rfl⟩
 ·rename_i j want hg
  rw [hg]
  simp only []
  split at h
  ·rename_i d hd
   rw [hd]
   simp only [Option.bind_some]
   split at h
   ·rename_i t hl
    simp only [T.run, Option.some.injEq, Prod.mk.injEq] at h
    obtain ⟨rfl, rfl⟩ := h
    rw [lookT_raw, hl]
    exact ⟨rfl, rfl⟩
   ·rename_i t hl
    rw [lookT_raw, hl]
    simp only [T.run] at h
    cases t with
    | true =>
     simp only [if_true, Option.some.injEq, Prod.mk.injEq] at h
     obtain ⟨rfl, rfl⟩ := h
     exact ⟨rfl, knowT_raw hl⟩
    | false =>
     simp only [Bool.false_eq_true, if_false, Option.some.injEq, Prod.mk.injEq] at h
     obtain ⟨rfl, rfl⟩ := h
     exact ⟨rfl, knowT_raw hl⟩
   ·rename_i hl
    simp only [T.run, Option.some.injEq, Prod.mk.injEq] at h
    obtain ⟨rfl, rfl⟩ := h
    rw [lookT_raw, hl]
    exact ⟨rfl, rfl⟩
   ·cases h
  ·cases h
theorem runOpsT_raw {E : TEnv} (hlib : E.LibOK) {ops : Array Oper} : ∀ {l : List (Oper × Nat)} {s s' : TSlots} {R R' : TTab} {ps ps' : List (List Nat × List Nat)}, (runOpsT E ops l s R ps).run = some (s', R', ps') →
  runOps E.env E.raw ops l (rawSlots s) (rawTab R) = some (rawSlots s', rawTab R') ∧ ps' = ps ++ prints E.env E.raw ops l (rawSlots s) (rawTab R)
 | [], s, s', R, R', ps, ps', h => by
  simp only [runOpsT, T.run, Option.some.injEq, Prod.mk.injEq] at h
  obtain ⟨rfl, rfl, rfl⟩ := h
  exact ⟨rfl, by simp [prints]⟩
 | (o, base) :: l, s, s', R, R', ps, ps', h => by
  simp only [runOpsT] at h
  obtain ⟨⟨b, s1⟩, hg, h⟩ := T.bind_run h
  obtain ⟨hg1, hg2⟩ := guardT_raw hg
  simp only [runOps, prints, hg1]
  cases b with
  | false =>
   simp only at h
   obtain ⟨h1, h2⟩ := runOpsT_raw hlib h
   rw [putT_raw, hg2] at h1 h2
   exact ⟨h1, by rw [h2]; simp [TV.raw, TG.raw, TB.raw, skipV]⟩
  | true =>
   simp only at h
   obtain ⟨⟨v, R1, t1, c1⟩, hr, h⟩ := T.bind_run h
   have hs := sim_opT hlib (o := o) (base := base) (evT_slots s1)
   rw [hg2] at hs
   obtain ⟨a1, a2, a3⟩ := hs _ _ _ _ _ _ _ hr
   obtain ⟨h1, h2⟩ := runOpsT_raw hlib h
   rw [putT_raw, hg2] at h1 h2
   rw [a1]
   refine ⟨h1, ?_⟩
   rw [h2]
   simp only [List.nil_append] at a2 a3
   rw [← a2, ← a3]
   simp
theorem rawTab_append (R S : TTab) : rawTab (R ++ S) = rawTab R ++ rawTab S := by unfold rawTab; rw [List.map_append]
theorem rawTab_length (R : TTab) : (rawTab R).length = R.length := by unfold rawTab; simp
theorem evRegionT_raw {E : TEnv} (hlib : E.LibOK) {ops : Array Oper} {draw : Bool} {s s' : TSlots} {R R' : TTab} (h : (evRegionT E ops draw s R).run = some (s', R')) :
  evRegion E.env E.raw ops draw (rawSlots s) (rawTab R) = some (rawSlots s', rawTab R') := by
 unfold evRegionT at h
 unfold evRegion
 obtain ⟨⟨s1, R1, ps⟩, h1, h2⟩ := T.bind_run h
 obtain ⟨a1, a2⟩ := runOpsT_raw hlib h1
 have e : rawTab (R ++ List.replicate (needs ops.toList) TEnt.fresh) = rawTab R ++ List.replicate (needs ops.toList) Ent.fresh := by
  rw [rawTab_append]; congr 1; unfold rawTab; rw [List.map_replicate]; rfl
 have el : (R ++ List.replicate (needs ops.toList) TEnt.fresh).length = (rawTab R ++ List.replicate (needs ops.toList) Ent.fresh).length := by rw [← e, rawTab_length]
 rw [e, el] at a1 a2
 simp only [List.nil_append] at a2
 simp only [] at h2 ⊢
 cases draw with
 | false =>
  simp only [Bool.false_eq_true, if_false] at h2 ⊢
  simp only [T.run, Option.some.injEq, Prod.mk.injEq] at h2
  obtain ⟨rfl, rfl⟩ := h2
  exact a1
 | true =>
  simp only [if_true] at h2 ⊢
  split at h2
  ·rename_i hok
   simp only [T.run, Option.some.injEq, Prod.mk.injEq] at h2
   obtain ⟨rfl, rfl⟩ := h2
   rw [a2] at hok
   rw [if_pos hok]
   exact a1
  ·cases h2
end Go.Gm
