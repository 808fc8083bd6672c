import Derived.Test.YtpkbjabnchfgjaaGreatDoorWGt8
namespace Go.Gm
set_option linter.unusedSimpArgs false
set_option linter.unusedVariables false
theorem Pr.bind_ret {α : Type} : ∀ (p : Pr α), p.bind Pr.ret = p
 | .ret a => rfl
 | .fail => rfl
 | .get r k => by simp only [Pr.bind]; congr 1; funext rt; exact Pr.bind_ret (k rt)
 | .put r rt k => by simp only [Pr.bind]; rw [Pr.bind_ret k]
 | .del r k => by simp only [Pr.bind]; rw [Pr.bind_ret k]
 | .mk r rt k => by simp only [Pr.bind]; rw [Pr.bind_ret k]
 | .peek r k => by simp only [Pr.bind]; congr 1; funext rt; exact Pr.bind_ret (k rt)
theorem Sim.bindR {α β γ : Type} {f : α → β} {g : γ → β} {p : TP γ} {q : Pr β} {k : γ → TP α} (h : Sim p q g) (hk : ∀ a, Sim (k a) (.ret (g a)) f) : Sim (p.bind k) q f := by
 have := Sim.bind (k' := Pr.ret) h hk
 rwa [Pr.bind_ret] at this
theorem zjw {fl : Option ETy} (x : TB) : Sim (zarv fl x) (if fl.isSome then zaru x.raw else .ret x.raw) TB.raw := by
 cases fl with
 | none =>
  show Sim _ (Pr.ret x.raw) _
  cases x <;> exact Sim.ret rfl
 | some e =>
  show Sim _ (zaru x.raw) _
  cases x with
  | rf r g off len =>
   show Sim (TP.bind (zss (.rf r g off len)) _) (zlp (TB.rf r g off len).raw) _
   refine Sim.bindR (zud (.rf r g off len)) fun y => ?_
   cases y <;> try exact Sim.fail
   rename_i e' xs ex lo
   show Sim (match zdg e' e xs with | some ys => _ | none => _) _ _
   cases hc : zdg e' e xs with
   | none => exact Sim.fail
   | some ys =>
    obtain ⟨h1, _, h3⟩ := zek hc
    exact Sim.ret (by simp only [TB.raw, h1, h3])
  | ro e' xs ex lo =>
   show Sim (match zdg e' e xs with | some ys => _ | none => _) _ _
   cases hc : zdg e' e xs with
   | none => exact Sim.fail
   | some ys =>
    obtain ⟨h1, _, h3⟩ := zek hc
    exact Sim.ret (by simp only [TB.raw, h1, h3])
  | _ => exact Sim.ret rfl
theorem zuf {e : ETy} : ∀ (l : List TB), Sim (ztc (some e) l) (zabp (l.map TB.raw)) (List.map TB.raw)
 | [] => Sim.ret rfl
 | x :: xs => Sim.bind (zjw (fl := some e) x) fun y => Sim.bind (zuf xs) fun ys => Sim.ret rfl
theorem zpl : ∀ (l : List TB), Sim (ztc none l) (.ret (l.map TB.raw)) (List.map TB.raw)
 | [] => Sim.ret rfl
 | x :: xs => by
  have h : Sim (ztc none (x :: xs)) ((Pr.ret x.raw).bind fun y => (Pr.ret (xs.map TB.raw)).bind fun ys => .ret (y :: ys)) (List.map TB.raw) :=
   Sim.bind (zjw (fl := none) x) fun y => Sim.bind (zpl xs) fun ys => Sim.ret rfl
  exact h
theorem zwt {fl : Option ETy} (x : TG) : Sim (z2t fl x) (zaeq fl.isSome x.raw) TG.raw := by
 unfold zaeq
 cases fl with
 | none =>
  show Sim _ (Pr.ret x.raw) _
  cases x with
  | b x =>
   have h : Sim (z2t none (.b x)) ((Pr.ret x.raw).bind fun y => .ret (.b y)) TG.raw := Sim.bind (zjw (fl := none) x) fun y => Sim.ret rfl
   exact h
  | ag xs =>
   have h : Sim (z2t none (.ag xs)) ((Pr.ret (xs.map TB.raw)).bind fun y => .ret (.ag y)) TG.raw := Sim.bind (zpl xs) fun y => Sim.ret rfl
   exact h
 | some e =>
  cases x with
  | b x => exact Sim.bind (zjw (fl := some e) x) fun y => Sim.ret rfl
  | ag xs => exact Sim.bind (zuf xs) fun y => Sim.ret rfl
theorem z2v (l : List (Option ETy)) : (l.map Option.isSome).headD false = (l.headD none).isSome := by cases l <;> rfl
theorem zug : ∀ (fl : List (Option ETy)) (l : List TG), Sim (ztd fl l) (z2s (fl.map Option.isSome) (l.map TG.raw)) (List.map TG.raw)
 | fl, [] => Sim.ret rfl
 | fl, x :: xs => by
  simp only [ztd, z2s, qu, z2v, ← List.map_tail]
  exact Sim.bind (zwt x) fun y => Sim.bind (zug fl.tail xs) fun ys => Sim.ret rfl
theorem zafc {fl : Option ETy} (x : TV) : Sim (za51 fl x) (zbcv fl.isSome x.raw) TV.raw := by
 cases x with
 | g x => exact Sim.bind (zwt x) fun y => Sim.ret rfl
 | cl f caps => exact Sim.ret rfl
 | tp xs => exact Sim.ret rfl
theorem zla : ∀ (fl : List (Option ETy)) (l : List TV), Sim (zn2 fl l) (zv5 (fl.map Option.isSome) (l.map TV.raw)) (List.map TV.raw)
 | fl, [] => Sim.ret rfl
 | fl, x :: xs => by
  simp only [zn2, zv5, qu, z2v, ← List.map_tail]
  exact Sim.bind (zafc x) fun y => Sim.bind (zla fl.tail xs) fun ys => Sim.ret rfl
theorem z7b : ∀ (l : List Value), zyo (l.map C.v) = some l
 | [] => rfl
 | x :: xs => by simp only [qu, zyo, z7b xs, Option.map_some]
theorem zle : ∀ {a b : List B} {x y : List C}, toCs a = some x → toCs b = some y → toCs (a ++ b) = some (x ++ y)
 | [], b, x, y, ha, hb => by simp only [toCs, qc] at ha; subst ha; exact hb
 | z :: a, b, x, y, ha, hb => by
  simp only [toCs] at ha
  split at ha
  ·rename_i c cs h1 h2
   cases ha
   simp only [List.cons_append, toCs, h1, zle h2 hb]
  ·cases ha
theorem zuy : ∀ (e : ETy) (x : den e), e.ok = true → toCs (encB e x) = some (encC e x)
 | .int _, _, _ => rfl
 | .bool, _, _ => rfl
 | .str, _, _ => rfl
 | .pair a b, x, h => by
  simp only [ETy.ok, qo] at h
  exact zle (zuy a _ h.1) (zuy b _ h.2)
 | .list lo e, xs, h => by
  simp only [encB, encC, toCs, B.toC]
  rw [(zji h xs).2, z7b]
  rfl
theorem z4v {e : ETy} (h : e.ok = true) : ∀ (xs : List (den e)), toCs (xs.flatMap (encB e)) = some (xs.flatMap (encC e))
 | [] => rfl
 | x :: xs => by
  simp only [List.flatMap_cons]
  exact zle (zuy e x h) (z4v h xs)
theorem zbf {mode : Bool} (x : TB) : Sim (zacc mode x) (zzu mode x.raw) TB.raw := by
 cases x with
 | rf r g off len =>
  show Sim (if mode then _ else _) (if mode then _ else _) _
  refine Sim.ite (fun h => Sim.pos h (Sim.ret rfl)) (fun h => Sim.neg h ?_)
  refine Sim.content (x := .rf r g off len) fun e xs hl => Sim.iteF fun hok => ?_
  rw [z4v hok]
  have : len = xs.length := by simpa [TB.raw, lenB] using hl
  exact Sim.ret (by simp only [TB.raw, this])
 | _ => exact Sim.ret rfl
theorem zlb {mode : Bool} : ∀ (l : List TB), Sim (zzv mode l) (zwk mode (l.map TB.raw)) (List.map TB.raw)
 | [] => Sim.ret rfl
 | x :: xs => Sim.bind (zbf x) fun y => Sim.bind (zlb xs) fun ys => Sim.ret rfl
theorem zwx {mode : Bool} (x : TG) : Sim (zatq mode x) (zatp mode x.raw) TG.raw := by
 cases x with
 | b x => exact Sim.bind (zbf x) fun y => Sim.ret rfl
 | ag xs => exact Sim.bind (zlb xs) fun y => Sim.ret rfl
theorem zun {mode : Bool} : ∀ (l : List TG), Sim (z7q mode l) (z3u mode (l.map TG.raw)) (List.map TG.raw)
 | [] => Sim.ret rfl
 | x :: xs => Sim.bind (zwx x) fun y => Sim.bind (zun xs) fun ys => Sim.ret rfl
theorem zab8 {x : TB} {e : ETy} {v : den e} (h : oneE x = some ⟨e, v⟩) : x.raw.toC.map (fun c => [c]) = some (encC e v) ∧ e.ok = true := by
 cases x <;> simp only [oneE, qc, Sigma.mk.injEq] at h <;> try (cases h; done)
 case int k z => obtain ⟨rfl, h⟩ := h; cases h; exact ⟨rfl, rfl⟩
 case bl t => obtain ⟨rfl, h⟩ := h; cases h; exact ⟨rfl, rfl⟩
 case bool t => obtain ⟨rfl, h⟩ := h; cases h; exact ⟨rfl, rfl⟩
 case str l => obtain ⟨rfl, h⟩ := h; cases h; exact ⟨rfl, rfl⟩
 case ro e' xs ex lo =>
  split at h
  ·rename_i hp
   cases h
   refine ⟨?_, hp⟩
   show ((zyo (xs.flatMap (encC e'))).map (C.sl lo xs.length)).map (fun c => [c]) = _
   rw [(zji hp xs).2, z7b]
   rfl
  ·cases h
theorem zac0 {b : B} {c : List C} (h : b.toC.map (fun c => [c]) = some c) (l : List B) : toCs (b :: l) = (toCs l).map (c ++ ·) := by
 cases hb : b.toC with
 | none => rw [hb] at h; cases h
 | some d =>
  rw [hb] at h
  cases h
  simp only [toCs, hb]
  cases toCs l <;> rfl
theorem zacg : ∀ {cs : List TB} {e : ETy} {v : den e}, recE cs = some ⟨e, v⟩ → toCs (cs.map TB.raw) = some (encC e v) ∧ e.ok = true
 | [], e, v, h => by cases h
 | [x], e, v, h => by
  obtain ⟨h1, h2⟩ := zab8 (show oneE x = some ⟨e, v⟩ from h)
  refine ⟨?_, h2⟩
  rw [qu, zac0 h1]
  simp [toCs]
 | x :: y :: t, e, v, h => by
  unfold recE at h
  simp only [] at h
  split at h
  ·rename_i a u b w h1 h2
   cases h
   obtain ⟨g1, g2⟩ := zab8 h1
   obtain ⟨g3, g4⟩ := zacg h2
   refine ⟨?_, by simp only [ETy.ok, g2, g4, Bool.and_self]⟩
   rw [qu, zac0 g1, g3]
   rfl
  ·cases h
theorem zafe (x : TB) : Sim (zasi x) (zaev x.raw) TB.raw := by
 cases x with
 | pf r g fo =>
  show Sim _ (zaev (.pt r g fo)) _
  unfold zasi zaev
  refine Sim.get fun rt => ?_
  cases rt with
  | row g' e xs => exact Sim.fail
  | rcd g' cs =>
   refine Sim.iteF fun hg => Sim.pos hg ?_
   show Sim (match recE cs with | some ⟨e, v⟩ => _ | none => _) (match toCs (cs.map TB.raw) with | some cs => _ | none => _) _
   cases hr : recE cs with
   | none => exact Sim.fail
   | some p =>
    obtain ⟨e, v⟩ := p
    rw [(zacg hr).1]
    refine Sim.iteF fun h0 => ?_
    subst h0
    refine Sim.ret ?_
    simp [TB.raw]
 | pe r g e i fo => exact Sim.fail
 | int k z => exact zbf (mode := false) (.int k z)
 | bl t => exact zbf (mode := false) (.bl t)
 | bool t => exact zbf (mode := false) (.bool t)
 | str l => exact zbf (mode := false) (.str l)
 | fn f => exact zbf (mode := false) (.fn f)
 | ro e xs ex lo => exact zbf (mode := false) (.ro e xs ex lo)
 | rf r g off len => exact zbf (mode := false) (.rf r g off len)
 | pr e xs i fo lo => exact zbf (mode := false) (.pr e xs i fo lo)
 | clo f ps => exact zbf (mode := false) (.clo f ps)
 | nf => exact zbf (mode := false) (.nf)
 | skip => exact zbf (mode := false) (.skip)
 | dead => exact zbf (mode := false) (.dead)
theorem zaff (x : TG) : Sim (za53 x) (zbc2 x.raw) TG.raw := by
 cases x with
 | b x => exact Sim.bind (zafe x) fun y => Sim.ret rfl
 | ag xs => exact Sim.bind (zlb xs) fun y => Sim.ret rfl
theorem zuh : ∀ (l : List TG), Sim (z7m l) (z3f (l.map TG.raw)) (List.map TG.raw)
 | [] => Sim.ret rfl
 | x :: xs => Sim.bind (zaff x) fun y => Sim.bind (zuh xs) fun ys => Sim.ret rfl
theorem zafg {mode : Bool} (x : TV) : Sim (za57 mode x) (zbej mode x.raw) TV.raw := by
 cases x with
 | g x => exact Sim.bind (zwx x) fun y => Sim.ret rfl
 | cl f caps =>
  cases mode with
  | true => exact Sim.bind (zuh caps) fun y => Sim.ret rfl
  | false => exact Sim.bind (zun caps) fun y => Sim.ret rfl
 | tp xs => exact Sim.fail
theorem zpm : ∀ (ms : List Bool) (l : List TV), Sim (zzt ms l) (ztv ms (l.map TV.raw)) (List.map TV.raw)
 | ms, [] => Sim.ret rfl
 | ms, x :: xs => Sim.bind (zafg x) fun y => Sim.bind (zpm ms.tail xs) fun ys => Sim.ret rfl
def zau (ids : TIds) : Ids := ids.map fun p => (p.1, p.2.raw)
theorem zzy (x : TB) : zatx x.raw = x.refs := by cases x <;> rfl
theorem zoe (x : TG) : zaty x.raw = x.refs := by
 cases x with
 | b x => exact zzy x
 | ag xs => simp only [TG.raw, zaty, TG.refs, List.flatMap_map]; congr 1; funext x; exact zzy x
theorem zae3 (x : TV) : zatz x.raw = x.refs := by
 cases x with
 | g x => exact zoe x
 | cl f caps => simp only [TV.raw, zatz, TV.refs, List.flatMap_map]; congr 1; funext x; exact zoe x
 | tp xs => simp only [TV.raw, zatz, TV.refs, List.flatMap_map]; congr 1; funext x; exact zoe x
theorem zpg (rt : TRoot) : rt.raw.refs = rt.refs := by
 cases rt with
 | row g e xs => rfl
 | rcd g cs =>
  show (if false then [] else (cs.map TB.raw).flatMap zatx) = cs.flatMap TB.refs
  rw [if_neg (by simp), List.flatMap_map]; congr 1; funext x; exact zzy x
theorem ztb (rt : TRoot) : rt.raw.g = rt.g := by cases rt <;> rfl
theorem zjx : ∀ (k : Nat) (todo : List Nat) (acc : TIds), Sim (zwm k todo acc) (zj7 k todo (zau acc)) zau
 | k, [], acc => by cases k <;> exact Sim.ret rfl
 | 0, _ :: _, acc => Sim.fail
 | k + 1, r :: todo, acc => by
  simp only [zwm, zj7]
  have hany : (zau acc).any (fun p => p.1 == r) = acc.any (fun p => p.1 == r) := by
   unfold zau; rw [List.any_map]; rfl
  rw [hany]
  refine Sim.ite (fun h => Sim.pos h (zjx k todo acc)) (fun h => Sim.neg h ?_)
  refine Sim.peek fun rt => ?_
  cases rt with
  | none => exact zjx k todo acc
  | some rt =>
   have := zjx k (rt.refs ++ todo) (acc ++ [(r, rt)])
   have e : zau (acc ++ [(r, rt)]) = zau acc ++ [(r, rt.raw)] := by simp [zau]
   rw [e] at this
   show Sim _ (zj7 k (rt.raw.refs ++ todo) (zau acc ++ [(r, rt.raw)])) _
   rw [zpg]
   exact this
theorem zuk : ∀ (m j : Nat), Sim (z7p m j) (zzs m j) zau
 | 0, j => Sim.ret rfl
 | m + 1, j => Sim.get fun rt => Sim.bind (zuk m (j + 1)) fun ids => Sim.ret rfl
theorem zoj (m : Nat) (vs : List TV) : Sim (zv8 m vs) (z7j m (vs.map TV.raw)) zau := by
 refine Sim.bind (zuk m 0) fun ps => ?_
 have e1 : (zau ps).flatMap (fun p => p.2.refs) = ps.flatMap (fun p => p.2.refs) := by
  unfold zau; rw [List.flatMap_map]; congr 1; funext p; exact zpg p.2
 have e2 : (vs.map TV.raw).flatMap zatz = vs.flatMap TV.refs := by
  rw [List.flatMap_map]; congr 1; funext v; exact zae3 v
 rw [e1, e2]
 exact zjx _ _ ps
theorem z2n : ∀ (ids : TIds) (r k : Nat), zcf (zau ids) r k = (zapx ids r k).map fun p => (p.1, p.2.raw)
 | [], r, k => rfl
 | (r', rt) :: ids, r, k => by
  show (if r' = r then some (k, rt.raw) else zcf (zau ids) r (k + 1)) = _
  simp only [zapx]
  split
  ·rfl
  ·exact z2n ids r (k + 1)
theorem z7s (keep : Nat) (ids : TIds) (x : TB) : (x.mapR (renT keep ids)).raw = renB keep (zau ids) x.raw := by
 have key : ∀ r g, (match zcf (zau ids) r 0 with
   | some (j, rt) => if rt.g = g then some (j, if j < keep then min g 1 else 0) else none
   | none => none) = renT keep ids r g := by
  intro r g
  rw [z2n]
  unfold renT
  cases zapx ids r 0 with
  | none => rfl
  | some p => simp only [Option.map_some, ztb]
 cases x <;> try rfl
 case rf r g off len =>
  simp only [TB.mapR, TB.raw, renB]
  rw [← key r g]
  cases hf : zcf (zau ids) r 0 with
  | none => rfl
  | some p =>
   simp only []
   by_cases hg : p.2.g = g
   ·simp only [if_pos hg]
   ·simp only [if_neg hg]
 case pe r g e i fo =>
  simp only [TB.mapR, TB.raw, renB]
  rw [← key r g]
  cases hf : zcf (zau ids) r 0 with
  | none => rfl
  | some p =>
   simp only []
   by_cases hg : p.2.g = g
   ·simp only [if_pos hg]
   ·simp only [if_neg hg]
 case pf r g fo =>
  simp only [TB.mapR, TB.raw, renB]
  rw [← key r g]
  cases hf : zcf (zau ids) r 0 with
  | none => rfl
  | some p =>
   simp only []
   by_cases hg : p.2.g = g
   ·simp only [if_pos hg]
   ·simp only [if_neg hg]
 case clo f ps =>
  have e : (fun p : Nat × Nat × Nat => (renT keep ids p.1 p.2.1).map fun q => (q.1, q.2, p.2.2)) = renP keep (zau ids) := by
   funext p
   rw [← key p.1 p.2.1]
   unfold renP
   cases hf : zcf (zau ids) p.1 0 with
   | none => rfl
   | some q =>
    simp only []
    by_cases hg : q.2.g = p.2.1
    ·simp only [if_pos hg, Option.map_some]
    ·simp only [if_neg hg, Option.map_none]
  simp only [TB.mapR, TB.raw, renB]
  rw [e]
  cases zi1 (renP keep (zau ids)) ps <;> rfl
theorem zt0 (keep : Nat) (ids : TIds) (x : TG) : (x.mapR (renT keep ids)).raw = renG keep (zau ids) x.raw := by
 cases x with
 | b x => simp only [TG.mapR, TG.raw, renG, z7s]
 | ag xs => simp only [TG.mapR, TG.raw, renG, List.map_map]; congr 2; funext x; exact z7s keep ids x
theorem zt1 (keep : Nat) (ids : TIds) (x : TV) : (x.mapR (renT keep ids)).raw = renV keep (zau ids) x.raw := by
 cases x with
 | g x => simp only [TV.mapR, TV.raw, renV, zt0]
 | cl f caps => simp only [TV.mapR, TV.raw, renV, List.map_map]; congr 2; funext x; exact zt0 keep ids x
 | tp xs => simp only [TV.mapR, TV.raw, renV, List.map_map]; congr 2; funext x; exact zt0 keep ids x
theorem zhb (keep : Nat) (all : TIds) : ∀ (j : Nat) (ids : TIds), zaf (zw2 keep all j ids) = zcg keep (zau all) j (zau ids)
 | j, [] => rfl
 | j, (r, rt) :: ids => by
  have ih := zhb keep all (j + 1) ids
  show TEnt.raw (.live (rt.mapR (renT keep all) (if j < keep then min rt.g 1 else 0))) :: zaf (zw2 keep all (j + 1) ids) = Ent.live (zbn keep (zau all) j rt.raw) :: zcg keep (zau all) (j + 1) (zau ids)
  rw [ih]
  congr 2
  cases rt with
  | row g e xs => rfl
  | rcd g cs =>
   have : (cs.map (TB.mapR (renT keep all))).map TB.raw = (cs.map TB.raw).map (renB keep (zau all)) := by
    rw [List.map_map, List.map_map]; congr 1; funext x; exact z7s keep all x
   show Ent.live ⟨_, (cs.map (TB.mapR (renT keep all))).length, false, (cs.map (TB.mapR (renT keep all))).map TB.raw⟩ = Ent.live ⟨_, _, false, if false then _ else (cs.map TB.raw).map (renB keep (zau all))⟩
   rw [this, km]
   rfl
theorem z71 (ids : TIds) (base : Nat) (x : TB) : (x.mapR (subT ids base)).raw = subB (zau ids) base x.raw := by
 have hg : ∀ j : Nat, (zau ids)[j]? = (ids[j]?).map fun (p : Nat × TRoot) => (p.1, p.2.raw) := fun j => by unfold zau; rw [qn]
 have hl : (zau ids).length = ids.length := by unfold zau; simp
 cases x <;> try rfl
 case rf r g off len =>
  simp only [TB.mapR, TB.raw, subB, hg, subT, hl]
  cases ids[r]? with
  | none => rfl
  | some p => simp only [Option.map_some, ztb]
 case pe r g e i fo =>
  simp only [TB.mapR, TB.raw, subB, hg, subT, hl]
  cases ids[r]? with
  | none => rfl
  | some p => simp only [Option.map_some, ztb]
 case pf r g fo =>
  simp only [TB.mapR, TB.raw, subB, hg, subT, hl]
  cases ids[r]? with
  | none => rfl
  | some p => simp only [Option.map_some, ztb]
 case clo f ps =>
  have key : ∀ ps : List (Nat × Nat × Nat), zi1 (fun p : Nat × Nat × Nat => (subT ids base p.1 p.2.1).map fun q => (q.1, q.2, p.2.2)) ps = some (ps.map (subP (zau ids) base)) := by
   intro ps
   induction ps with
   | nil => rfl
   | cons p ps ih =>
    have e : (subT ids base p.1 p.2.1).map (fun q => (q.1, q.2, p.2.2)) = some (subP (zau ids) base p) := by
     unfold subT subP
     simp only [hg, hl]
     cases ids[p.1]? with
     | none => rfl
     | some q => simp only [Option.map_some, ztb]
    simp only [zi1, e, ih, qu]
  simp only [TB.mapR, TB.raw, subB]
  rw [key]
theorem zuu (ids : TIds) (base : Nat) (x : TG) : (x.mapR (subT ids base)).raw = subG (zau ids) base x.raw := by
 cases x with
 | b x => simp only [TG.mapR, TG.raw, subG, z71]
 | ag xs => simp only [TG.mapR, TG.raw, subG, List.map_map]; congr 2; funext x; exact z71 ids base x
theorem zauo (ids : TIds) (base : Nat) (x : TV) : (x.mapR (subT ids base)).raw = subV (zau ids) base x.raw := by
 cases x with
 | g x => simp only [TV.mapR, TV.raw, subV, zuu]
 | cl f caps => simp only [TV.mapR, TV.raw, subV, List.map_map]; congr 2; funext x; exact zuu ids base x
 | tp xs => simp only [TV.mapR, TV.raw, subV, List.map_map]; congr 2; funext x; exact zuu ids base x
end Go.Gm
