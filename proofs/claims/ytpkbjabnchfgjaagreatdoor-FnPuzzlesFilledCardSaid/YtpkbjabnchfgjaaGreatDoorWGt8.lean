import Derived.Test.YtpkbjabnchfgjaaGreatDoorWGt7
namespace Go.Gm
set_option linter.unusedSimpArgs false
set_option linter.unusedVariables false
section
variable {P : Program} {ev : Operand → Option TV} {ev' : Operand → Option V}
theorem zsq (hev : EvR ev ev') : ∀ {l : List Operand} {gs : List TG}, znq ev l = some gs → zim ev' l = some (gs.map TG.raw)
 | [], gs, h => by simp only [znq, qc] at h; subst h; rfl
 | x :: l, gs, h => by
  simp only [znq] at h
  split at h
  ·rename_i y ys hy hys
   cases h
   have := hev x _ hy
   simp only [TV.raw] at this
   simp only [zim, this, zsq hev hys, qu]
  ·cases h
theorem za0w {p : Option TV} {p' : Option V} (h : RelO p p') {n : Nat} (hn : lenT p = some n) : lenB p' = some n := by
 unfold lenT at hn
 split at hn
 ·cases hn; rw [h _ rfl]; rfl
 ·cases hn; rw [h _ rfl]; rfl
 ·cases hn
theorem za1z {o : Oper} {base : Nat} (hev : EvR ev ev') : Sim (actT P o ev base) (act P o ev' base) TV.raw := by
 obtain ⟨dst, op, type, pos, after, guard⟩ := o
 cases op <;> (try exact Sim.fail)
 case move x => exact z4k (hev x)
 case assign x => exact z4k (hev x)
 case pick c a b =>
  simp only [actT, act]
  split
  ·rename_i t hc
   have e1 := hev c _ hc
   simp only [TV.raw, TG.raw, TB.raw] at e1
   rw [e1]
   simp only []
   cases t
   ·exact Sim.ofOpt (hev b)
   ·exact Sim.ofOpt (hev a)
  ·rename_i t hc
   have e1 := hev c _ hc
   simp only [TV.raw, TG.raw, TB.raw] at e1
   rw [e1]
   simp only []
   refine Sim.test (fun h => ?_) (fun h => ?_)
   ·subst h; exact Sim.ofOpt (hev a)
   ·subst h; exact Sim.ofOpt (hev b)
  ·exact Sim.fail
 case alloc t =>
  simp only [actT, act]
  split
  ·exact Sim.fail
  ·rename_i hna
   cases hz : zhc P t with
   | none => exact Sim.fail
   | some cs =>
    have hz' : zeroCells P t = some (cs.map TB.raw) := by
     unfold zhc at hz
     unfold zeroCells
     obtain ⟨zv, h1, h2⟩ := qx.1 hz
     rw [h1, Option.map_some, zjp h2]
    rw [hz']
    refine Sim.mk ?_ (Sim.ret rfl)
    unfold zpi
    split
    ·rename_i n e hu; exact absurd hu (hna n e)
    ·simp [TRoot.raw]
 case box t x =>
  simp only [actT, act]
  cases hc : (ev x).bind TV.cells with
  | none => exact Sim.fail
  | some cs =>
   rw [zlo (hev x) hc]
   exact Sim.mk (by simp [TRoot.raw]) (Sim.ret rfl)
 case build t parts => exact zafa (o := ⟨dst, .build t parts, type, pos, after, guard⟩) hev rfl
 case buildSlice t n parts => exact zub (o := ⟨dst, .buildSlice t n parts, type, pos, after, guard⟩) hev rfl
 case load t p => exact z4i (hev p)
 case store t p x => exact zafj (hev p) (hev x)
 case nilCheck x =>
  simp only [actT, act]
  split
  ·rename_i r g fo hx
   have e1 := hev x _ hx
   simp only [TV.raw, TG.raw, TB.raw] at e1
   rw [e1]; exact Sim.ret rfl
  ·rename_i r g e i fo hx
   have e1 := hev x _ hx
   simp only [TV.raw, TG.raw, TB.raw] at e1
   rw [e1]; exact Sim.ret rfl
  ·rename_i e xs i fo lo hx
   have e1 := hev x _ hx
   simp only [TV.raw, TG.raw, TB.raw] at e1
   rw [e1]; exact Sim.ret rfl
  ·rename_i f caps hx
   have e1 := hev x _ hx
   simp only [TV.raw] at e1
   rw [e1]; exact Sim.ret rfl
  ·rename_i f ps hx
   have e1 := hev x _ hx
   simp only [TV.raw, TG.raw, TB.raw] at e1
   rw [e1]; exact Sim.ret rfl
  ·by_cases hall : zhj ev (Oper.op ⟨dst, .nilCheck x, type, pos, after, guard⟩).operands.toList = true
   ·obtain ⟨v, y, hv, hy⟩ := zce hall x (by simp [Op.operands])
    have e1 := hev x v hv
    rw [e1]
    cases v with
    | g v =>
     cases v with
     | b v => cases v <;> first | exact zft hev | simp [TV.conc, TB.conc] at hy
     | ag l => exact zft hev
    | cl f c => simp [TV.conc] at hy
    | tp l => simp [TV.conc] at hy
   ·have : zl9 P ⟨dst, .nilCheck x, type, pos, after, guard⟩ ev = .fail := by unfold zl9; rw [if_neg hall]
    rw [this]; exact Sim.fail
 case binOp op t x y m => exact za10 (o := ⟨dst, .binOp op t x y m, type, pos, after, guard⟩) hev rfl
 case unOp op m x => exact zbeq (o := ⟨dst, .unOp op m x, type, pos, after, guard⟩) hev rfl
 case index t x i => exact zafd (o := ⟨dst, .index t x i, type, pos, after, guard⟩) hev rfl
 case convert src dst' x => exact z4f (base := base) (o := ⟨dst, .convert src dst' x, type, pos, after, guard⟩) hev rfl
 case makeFunc fn first captured =>
  cases fn with
  | func f =>
   simp only [actT, act]
   refine Sim.ite (fun hc => Sim.pos hc ?_) (fun hc => Sim.neg hc (zft hev))
   cases hcap : znq ev captured.toList with
   | none => exact Sim.fail
   | some caps =>
    rw [zsq hev hcap]
    exact Sim.ret rfl
  | _ => exact Sim.fail
 case makeSlice t l c => exact zvc (hev l) (hev c)
 case slice t x lo hi mx => exact zafi (o := ⟨dst, .slice t x lo hi mx, type, pos, after, guard⟩) hev rfl
 case fieldAddr s x f => exact zva (hev x)
 case indexAddr t x i => exact zvb (hev x) (hev i)
 case extract x i =>
  simp only [actT, act]
  split
  ·rename_i xs hx
   have e1 := hev x _ hx
   simp only [TV.raw] at e1
   rw [e1]
   simp only []
   cases hy : xs[i]? with
   | none => exact Sim.fail
   | some y =>
    rw [qn, hy]
    exact Sim.ret rfl
  ·exact Sim.fail
 case call c =>
  obtain ⟨callee, args, argTypes⟩ := c
  cases callee with
  | builtin b =>
   cases b <;> (try exact Sim.fail)
   case len =>
    simp only [actT, act]
    split
    ·rename_i x e hx he
     rw [hx, he]
     simp only []
     cases hn : lenT (ev x) with
     | none => exact Sim.fail
     | some n =>
      rw [za0w (hev x) hn]
      exact Sim.ret rfl
    ·rename_i x hx he
     rw [hx, he]
     simp only []
     split
     ·rename_i l z hl hu hz
      obtain ⟨t, ht, hu⟩ := qx.1 hu
      obtain ⟨c1, s1, _⟩ := zch hev hl (y := .string ⟨l.toArray⟩) rfl
      have hzx : z = x := by
       rw [← Array.getElem?_toList, hz] at hx
       simpa using hx
      subst hzx
      refine zuj (o := ⟨dst, .call { callee := .builtin .len, args, argTypes }, type, pos, after, guard⟩) (y := .int .i64 l.length) (fun y hy => ?_) (fun cs b h => by cases h) ?_ rfl (fun cs h => by cases h)
      ·have hy2 : y ∈ ((#[] : Array Operand) ++ args).toList := hy
       have hy3 : y = z := by
        rw [Array.toList_append, hz] at hy2
        rcases kg.1 hy2 with h | h
        ·cases h
        ·exact List.mem_singleton.1 h
       rw [hy3]; exact s1
      ·have hargs : args.map (zde ev') = #[.string ⟨l.toArray⟩] := by
        apply Array.ext'
        rw [Array.toList_map, hz]
        simp [c1]
       have hlen : zbb P (Builtin.len_ argTypes type #[.string ⟨l.toArray⟩]) = some (.int .i64 l.length) := by
        have hun := zeq hu
        simp [Builtin.len_, ht, za6, hun, goInt]
        rfl
       simp only [execOp, resolve, hargs, za6, zc7, qa, invoke, builtin, hlen]
     ·exact Sim.fail
    ·exact Sim.fail
   case append =>
    simp only [actT, act]
    split
    ·rename_i s x t tx ha hat
     rw [ha, hat]
     exact z7u (hev s) (hev x)
    ·exact Sim.fail
   case clear =>
    simp only [actT, act]
    split
    ·rename_i x t ha hat
     rw [ha, hat]
     exact zafb (hev x)
    ·exact Sim.fail
   case copy =>
    simp only [actT, act]
    split
    ·rename_i d s t tx ha hat
     rw [ha, hat]
     exact zaua (hev d) (hev s)
    ·exact Sim.fail
   case min => exact zft hev
   case max => exact zft hev
  | value f => exact Sim.fail
  | invoke r n => exact Sim.fail
end
end Go.Gm
