import Derived.Test.YtpkbjabnchfgjaaGreatDoorWGt9
namespace Go.Gm
set_option linter.unusedSimpArgs false
set_option linter.unusedVariables false
theorem zut (ids : TIds) (base : Nat) (rt : TRoot) (g : Nat) : (rt.mapR (subT ids base) g).raw = { zbp (zau ids) base rt.raw with g := g } := by
 cases rt with
 | row g0 e xs => rfl
 | rcd g0 cs =>
  have : (cs.map (TB.mapR (subT ids base))).map TB.raw = (cs.map TB.raw).map (subB (zau ids) base) := by
   rw [List.map_map, List.map_map]; congr 1; funext x; exact z71 ids base x
  show (⟨g, (cs.map (TB.mapR (subT ids base))).length, false, (cs.map (TB.mapR (subT ids base))).map TB.raw⟩ : Root) = ⟨g, cs.length, false, if false then cs.map TB.raw else (cs.map TB.raw).map (subB (zau ids) base)⟩
  rw [this, km]
  rfl
theorem z4t (ids : TIds) (base : Nat) (rt : TRoot) : (rt.mapR (subT ids base) rt.g).raw = zbp (zau ids) base rt.raw := by
 rw [zut, ← ztb]; rfl
theorem zua (all : TIds) (base : Nat) : ∀ (ids : TIds) (j : Nat) (R : TTab), Sim (zao6 all base ids j R) (zj0 (zau all) base (zau ids) j (zaf R)) id
 | (r, rt0) :: ids, j, .live rt :: R => by
  show Sim (.put r (rt.mapR (subT all base) (rt0.g + rt.g)) (zao6 all base ids j R)) (.put r { zbp (zau all) base rt.raw with g := rt0.raw.g + rt.raw.g } (zj0 (zau all) base (zau ids) j (zaf R))) _
  refine Sim.put ?_ (zua all base ids j R)
  rw [zut, ztb, ztb]
 | (r, rt0) :: ids, j, .fresh :: R => Sim.fail
 | (r, rt0) :: ids, j, .dead :: R => Sim.fail
 | (r, rt0) :: ids, j, [] => Sim.fail
 | [], j, .live rt :: R => by
  show Sim (if j < 4 then _ else _) (if j < 4 then Pr.mk (base + j) (zbp (zau all) base rt.raw) (zj0 (zau all) base [] (j + 1) (zaf R)) else _) _
  refine Sim.iteF fun h => Sim.pos h ?_
  exact Sim.mk (z4t all base rt).symm (zua all base [] (j + 1) R)
 | [], j, .fresh :: R => Sim.fail
 | [], j, .dead :: R => Sim.fail
 | [], j, [] => Sim.ret rfl
theorem z4o (mode : Bool) (x : TB) : zup mode x.raw = z7x mode x := by cases x <;> rfl
theorem zld (mode : Bool) (x : TG) : zuq mode x.raw = zur mode x := by
 cases x with
 | b x => exact z4o mode x
 | ag xs => simp only [TG.raw, zuq, zur, List.flatMap_map]; congr 1; funext x; exact z4o mode x
theorem zaex (x : TG) : zaew x.raw = za54 x := by
 cases x with
 | b x => cases x <;> rfl
 | ag xs => exact zld false (.ag xs)
theorem z7z (mode : Bool) (x : TV) : zacs mode x.raw = z7y mode x := by
 cases x with
 | g x => exact zld mode x
 | cl f caps => simp only [TV.raw, zacs, z7y, List.flatMap_map]; congr 1; funext x
                cases mode with
                | true => exact zaex x
                | false => exact zld false x
 | tp xs => rfl
theorem zmh : ∀ (ms : List Bool) (l : List TV), zg1 ms (l.map TV.raw) = zmg ms l
 | ms, [] => rfl
 | ms, x :: xs => by simp only [qu, zg1, zmg, z7z, zmh ms.tail xs]
theorem zaeb (ids : TIds) (l : List Nat) : zsk (zau ids) l = zao4 ids l := by
 unfold zsk zao4
 congr 1
 funext r
 unfold zau
 rw [List.any_map]
 rfl
theorem zlt : ∀ (e : ETy) (x : den e), e.back = true → ∀ c ∈ encC e x, c.retOK = true
 | .int k, z, _, c, hc => by simp only [encC, List.mem_singleton] at hc; subst hc; rfl
 | .bool, t, _, c, hc => by simp only [encC, List.mem_singleton] at hc; subst hc; rfl
 | .str, l, _, c, hc => by simp only [encC, List.mem_singleton] at hc; subst hc; rfl
 | .pair a b, x, h, c, hc => by
  simp only [ETy.back, qo] at h
  simp only [encC, kg] at hc
  rcases hc with hc | hc
  ·exact zlt a _ h.1 c hc
  ·exact zlt b _ h.2 c hc
 | .list lo e, xs, h, c, hc => by
  simp only [ETy.back, qo] at h
  simp only [encC, List.mem_singleton] at hc
  subst hc
  exact h.1
theorem zs5 : ∀ (e : ETy) (x : den e), e.back = true → ∀ c ∈ encB e x, c.retOK = true
 | .int k, z, _, c, hc => by simp only [encB, List.mem_singleton] at hc; subst hc; rfl
 | .bool, t, _, c, hc => by simp only [encB, List.mem_singleton] at hc; subst hc; rfl
 | .str, l, _, c, hc => by simp only [encB, List.mem_singleton] at hc; subst hc; rfl
 | .pair a b, x, h, c, hc => by
  simp only [ETy.back, qo] at h
  simp only [encB, kg] at hc
  rcases hc with hc | hc
  ·exact zs5 a _ h.1 c hc
  ·exact zs5 b _ h.2 c hc
 | .list lo e, xs, h, c, hc => by
  simp only [ETy.back, qo] at h
  simp only [encB, List.mem_singleton] at hc
  subst hc
  show (lo && (xs.flatMap (encC e)).all C.retOK) = true
  rw [qo, qt]
  refine ⟨h.1, fun c hc => ?_⟩
  obtain ⟨x, _, hx⟩ := List.mem_flatMap.1 hc
  exact zlt e x h.2 c hx
theorem zt3 (x : TB) (h : x.retOK = true) : x.raw.retOK = true := by
 cases x with
 | ro e xs ex lo =>
  simp only [TB.retOK, qo] at h
  show (lo && (xs.flatMap (encC e)).all C.retOK) = true
  rw [qo, qt]
  refine ⟨h.1, fun c hc => ?_⟩
  obtain ⟨x, _, hx⟩ := List.mem_flatMap.1 hc
  exact zlt e x h.2 c hx
 | pr e xs i fo lo => cases h
 | _ => rfl
theorem zii {X Y : Type} {f : X → Y} {p : X → Bool} {q : Y → Bool} (hpq : ∀ x, p x = true → q (f x) = true) {l : List X} (h : l.all p = true) : (l.map f).all q = true := by
 rw [qt] at h ⊢
 intro y hy
 obtain ⟨x, hx, rfl⟩ := List.mem_map.1 hy
 exact hpq x (h x hx)
theorem zof (x : TG) (h : x.retOK = true) : x.raw.retOK = true := by
 cases x with
 | b x => exact zt3 x h
 | ag xs => exact zii zt3 h
theorem zae7 (x : TV) (h : x.retOK = true) : x.raw.retOK = true := by
 cases x with
 | g x => exact zof x h
 | cl f caps => exact zii zof h
 | tp xs => exact zii zof h
theorem zae6 (x : TEnt) (h : x.retOK = true) : x.raw.retOK = true := by
 cases x with
 | fresh => rfl
 | dead => rfl
 | live rt =>
  cases rt with
  | row g e xs =>
   show (xs.flatMap (encB e)).all B.retOK = true
   rw [qt]
   intro c hc
   obtain ⟨x, _, hx⟩ := List.mem_flatMap.1 hc
   exact zs5 e x h c hx
  | rcd g cs => exact zii zt3 h
theorem z38 (R : TTab) (h : R.all TEnt.retOK = true) : (zaf R).all Ent.retOK = true := zii zae6 h
theorem Sim.ofT {α β γ : Type} {g : γ → β} {t : T α} {k : α → TP γ} {q : Pr β} (h : ∀ a, t.run = some a → Sim (k a) q g) : Sim ((TP.ofT t).bind k) q g := by
 induction t with
 | ret a => exact h a rfl
 | fail => exact Sim.fail
 | test c x y ihx ihy =>
  refine Sim.test (fun hc => ihx fun a ha => h a ?_) (fun hc => ihy fun a ha => h a ?_)
  ·simp only [T.run, hc, if_true]; exact ha
  ·simp only [T.run, hc, qj, if_false]; exact ha
 | sub x f ih => exact Sim.sub fun b hb => ih b fun a ha => h a (by simp only [T.run, hb, qa]; exact ha)
def LibR (L : List TV → TTab → T (TV × TTab)) (F : List V → Tab → Option (V × Tab)) : Prop := ∀ args R v R', (L args R).run = some (v, R') → F (args.map TV.raw) (zaf R) = some (v.raw, zaf R')
theorem zuc {L : List TV → TTab → T (TV × TTab)} {rec : FuncId → List V → Tab → Option (V × Tab)} {f : FuncId} (hL : LibR L (rec f)) (gives : List (Option ETy)) (mode : List Bool) (args : List TV) (base : Nat) :
  Sim (zapa L gives mode args base) (z65 rec (gives.map Option.isSome) mode f (args.map TV.raw) base) TV.raw := by
 unfold zapa z65
 refine Sim.bind (zla gives args) fun args1 => Sim.bind (zpm mode args1) fun args2 => Sim.bind (zoj 0 args2) fun ids => ?_
 refine Sim.iteF fun hap => Sim.pos (by rw [zmh, zaeb]; exact hap) ?_
 refine Sim.ofT fun r hr => ?_
 have h1 := hL _ _ r.1 r.2 hr
 have e1 : (args2.map (TV.mapR (renT 0 ids))).map TV.raw = (args2.map TV.raw).map (renV 0 (zau ids)) := by
  rw [List.map_map, List.map_map]; congr 1; funext x; exact zt1 0 ids x
 rw [e1, zhb] at h1
 rw [h1]
 refine Sim.iteF fun hok => Sim.pos (by rw [qo] at hok ⊢; exact ⟨zae7 _ hok.1, z38 _ hok.2⟩) ?_
 exact Sim.bind (zua ids base ids 0 r.2) fun _ => Sim.ret (zauo ids base r.1)
def TEnv.env (E : TEnv) : Env := { P := E.P, lib := fun _ => none, modes := E.modes, gives := fun f => (E.gives f).map Option.isSome, keep := fun _ _ => [] }
def TEnv.LibOK (E : TEnv) : Prop := ∀ f L, E.lib f = some L → LibR L (E.raw f)
theorem zhp {ev : Operand → Option TV} {ev' : Operand → Option V} (hev : EvR ev ev') : ∀ {l : List Operand} {xs : List TV}, zs7 ev l = some xs → zj5 ev' l = some (xs.map TV.raw)
 | [], xs, h => by simp only [zs7, qc] at h; subst h; rfl
 | x :: l, xs, h => by
  simp only [zs7] at h
  split at h
  ·rename_i y ys hy hys
   cases h
   simp only [zj5, hev x y hy, zhp hev hys, qu]
  ·cases h
theorem zbep {E : TEnv} (hlib : E.LibOK) {o : Oper} {ev : Operand → Option TV} {ev' : Operand → Option V} {base : Nat} (hev : EvR ev ev') : Sim (opT E o ev base) (opP E.env E.raw o ev' base) TV.raw := by
 obtain ⟨dst, op, type, pos, after, guard⟩ := o
 unfold opT opP
 split
 ·rename_i x args argTypes heq
  simp only at heq
  subst heq
  simp only []
  split
  ·rename_i f as hx has
   have e1 := hev x _ hx
   simp only [TV.raw, TG.raw, TB.raw] at e1
   rw [e1, zhp hev has]
   cases hL : E.lib f with
   | none => exact Sim.fail
   | some L => exact Sim.pos ⟨rfl, rfl⟩ (zuc (hlib f L hL) _ _ as base)
  ·rename_i f caps as hx has
   have e1 := hev x _ hx
   simp only [TV.raw] at e1
   rw [e1, zhp hev has]
   cases hL : E.lib f with
   | none => exact Sim.fail
   | some L =>
    have := zuc (hlib f L hL) (E.gives f) (E.modes f) (as ++ caps.map .g) base
    have e2 : (as ++ caps.map TV.g).map TV.raw = as.map TV.raw ++ (caps.map TG.raw).map V.g := by
     rw [List.map_append, List.map_map, List.map_map]; rfl
    rw [e2] at this
    exact this
  ·rename_i f ps as hx has
   have e1 := hev x _ hx
   simp only [TV.raw, TG.raw, TB.raw] at e1
   rw [e1, zhp hev has]
   cases hL : E.lib f with
   | none => exact Sim.fail
   | some L =>
    have := zuc (hlib f L hL) (E.gives f) (E.modes f) (as ++ ps.map fun p => .g (.b (.pf p.1 p.2.1 p.2.2))) base
    have e2 : (as ++ ps.map fun p : Nat × Nat × Nat => TV.g (.b (.pf p.1 p.2.1 p.2.2))).map TV.raw = as.map TV.raw ++ ps.map fun p => V.g (.b (.pt p.1 p.2.1 p.2.2)) := by
     rw [List.map_append, List.map_map]; rfl
    rw [e2] at this
    exact this
  ·exact Sim.fail
 ·rename_i hn
  have := za1z (P := E.P) (o := ⟨dst, op, type, pos, after, guard⟩) (base := base) hev
  cases op <;> try exact this
  rename_i c
  obtain ⟨callee, args, argTypes⟩ := c
  cases callee <;> first
   | exact this
   | (exact absurd rfl (hn _ _ _))
def zas (s : zat) : zej := s.map fun p => (p.1, p.2.raw)
theorem zeo : ∀ (s : zat) (t : Nat), look (zas s) t = (ziz s t).map TV.raw
 | [], t => rfl
 | (d, v) :: s, t => by
  show (if d = t then some v.raw else look (zas s) t) = _
  simp only [ziz]
  split
  ·rfl
  ·exact zeo s t
theorem zacf (s : zat) (dst : Option Tmp) (v : TV) : zas (putT s dst v) = putS (zas s) dst v.raw := by cases dst <;> rfl
theorem z2k (s : zat) : EvR (evT (ziz s)) (evOf (look (zas s))) := zbco fun t v h => by rw [zeo, h]; rfl
theorem ziy {d : Nat} {b : Bool} : ∀ {s : zat}, ziz s d = some (.g (.b (.bool b))) → zas (z3b d b s) = zas s
 | [], h => by cases h
 | (d', v) :: s, h => by
  simp only [ziz] at h
  simp only [z3b]
  split at h
  ·rename_i e
   cases h
   rw [if_pos e]; rfl
  ·rename_i e
   rw [if_neg e]
   show (d', v.raw) :: zas (z3b d b s) = (d', v.raw) :: zas s
   rw [ziy h]
theorem zaer {ops : Array Oper} {s : zat} {o : Oper} {b : Bool} {s' : zat} (h : (zasa ops s o).run = some (b, s')) : zc4 ops (look (zas s)) o = some b ∧ zas s' = zas s := by
 unfold zasa at h
 unfold zc4
 split at h
 ·rename_i hg
  rw [hg]
  simp only [T.run, qc, qr] at h
  obtain ⟨rfl, rfl⟩ := h
  exact ⟨rfl, rfl⟩
 ·rename_i j want hg
  rw [hg]
  simp only []
  split at h
  ·rename_i d hd
   rw [hd]
   simp only [qa]
   split at h
   ·rename_i t hl
    simp only [T.run, qc, qr] at h
    obtain ⟨rfl, rfl⟩ := h
    rw [zeo, hl]
    exact ⟨rfl, rfl⟩
   ·rename_i t hl
    rw [zeo, hl]
    simp only [T.run] at h
    cases t with
    | true =>
     simp only [if_true, qc, qr] at h
     obtain ⟨rfl, rfl⟩ := h
     exact ⟨rfl, ziy hl⟩
    | false =>
     simp only [qj, if_false, qc, qr] at h
     obtain ⟨rfl, rfl⟩ := h
     exact ⟨rfl, ziy hl⟩
   ·rename_i hl
    simp only [T.run, qc, qr] at h
    obtain ⟨rfl, rfl⟩ := h
    rw [zeo, hl]
    exact ⟨rfl, rfl⟩
   ·cases h
  ·cases h
theorem zk9 {E : TEnv} (hlib : E.LibOK) {ops : Array Oper} : ∀ {l : List (Oper × Nat)} {s s' : zat} {R R' : TTab} {ps ps' : List (List Nat × List Nat)}, (zog E ops l s R ps).run = some (s', R', ps') →
  zgs E.env E.raw ops l (zas s) (zaf R) = some (zas s', zaf R') ∧ ps' = ps ++ prints E.env E.raw ops l (zas s) (zaf R)
 | [], s, s', R, R', ps, ps', h => by
  simp only [zog, T.run, qc, qr] at h
  obtain ⟨rfl, rfl, rfl⟩ := h
  exact ⟨rfl, by simp [prints]⟩
 | (o, base) :: l, s, s', R, R', ps, ps', h => by
  simp only [zog] at h
  obtain ⟨⟨b, s1⟩, hg, h⟩ := T.bind_run h
  obtain ⟨hg1, hg2⟩ := zaer hg
  simp only [zgs, prints, hg1]
  cases b with
  | false =>
   simp only at h
   obtain ⟨h1, h2⟩ := zk9 hlib h
   rw [zacf, hg2] at h1 h2
   exact ⟨h1, by rw [h2]; simp [TV.raw, TG.raw, TB.raw, zauh]⟩
  | true =>
   simp only at h
   obtain ⟨⟨v, R1, t1, c1⟩, hr, h⟩ := T.bind_run h
   have hs := zbep hlib (o := o) (base := base) (z2k s1)
   rw [hg2] at hs
   obtain ⟨a1, a2, a3⟩ := hs _ _ _ _ _ _ _ hr
   obtain ⟨h1, h2⟩ := zk9 hlib h
   rw [zacf, hg2] at h1 h2
   rw [a1]
   refine ⟨h1, ?_⟩
   rw [h2]
   simp only [qw] at a2 a3
   rw [← a2, ← a3]
   simp
theorem zzw (R S : TTab) : zaf (R ++ S) = zaf R ++ zaf S := by unfold zaf; rw [List.map_append]
theorem zhu (R : TTab) : (zaf R).length = R.length := by unfold zaf; simp
theorem zyw {E : TEnv} (hlib : E.LibOK) {ops : Array Oper} {draw : Bool} {s s' : zat} {R R' : TTab} (h : (zs8 E ops draw s R).run = some (s', R')) :
  zlv E.env E.raw ops draw (zas s) (zaf R) = some (zas s', zaf R') := by
 unfold zs8 at h
 unfold zlv
 obtain ⟨⟨s1, R1, ps⟩, h1, h2⟩ := T.bind_run h
 obtain ⟨a1, a2⟩ := zk9 hlib h1
 have e : zaf (R ++ List.replicate (zn8 ops.toList) TEnt.fresh) = zaf R ++ List.replicate (zn8 ops.toList) Ent.fresh := by
  rw [zzw]; congr 1; unfold zaf; rw [List.map_replicate]; rfl
 have el : (R ++ List.replicate (zn8 ops.toList) TEnt.fresh).length = (zaf R ++ List.replicate (zn8 ops.toList) Ent.fresh).length := by rw [← e, zhu]
 rw [e, el] at a1 a2
 simp only [qw] at a2
 simp only [] at h2 ⊢
 cases draw with
 | false =>
  simp only [qj, if_false] at h2 ⊢
  simp only [T.run, qc, qr] at h2
  obtain ⟨rfl, rfl⟩ := h2
  exact a1
 | true =>
  simp only [if_true] at h2 ⊢
  split at h2
  ·rename_i hok
   simp only [T.run, qc, qr] at h2
   obtain ⟨rfl, rfl⟩ := h2
   rw [a2] at hok
   rw [if_pos hok]
   exact a1
  ·cases h2
end Go.Gm
