import Derived.Test.YtppalpflejcjeaaGreatQGt7
namespace Go.Gm
set_option linter.unusedSimpArgs false
set_option linter.unusedVariables false
section
variable {P : Program} {ev : Operand → Option TV} {ev' : Operand → Option V}
theorem capsOfT_raw (hev : EvR ev ev') : ∀ {l : List Operand} {gs : List TG}, capsOfT ev l = some gs → capsOf ev' l = some (gs.map TG.raw)
 | [], gs, h => by simp only [capsOfT, Option.some.injEq] at h; subst h; rfl
 | x :: l, gs, h => by
  simp only [capsOfT] at h
  split at h
  ·rename_i y ys hy hys
   cases h
   have := hev x _ hy
   simp only [TV.raw] at this
   simp only [capsOf, this, capsOfT_raw hev hys, List.map_cons]
  ·cases h
theorem lenT_raw {p : Option TV} {p' : Option V} (h : RelO p p') {n : Nat} (hn : lenT p = some n) : lenB p' = some n := by
 unfold lenT at hn
 split at hn
 ·cases hn; rw [h _ rfl]; rfl
 ·cases hn; rw [h _ rfl]; rfl
 ·cases hn
theorem sim_actT {o : Oper} {base : Nat} (hev : EvR ev ev') : Sim (actT P o ev base) (act P o ev' base) TV.raw := by
 obtain ⟨dst, op, type, pos, after, guard⟩ := o
 cases op <;> (try exact Sim.fail)
 case move x => exact sim_moveT (hev x)
 case assign x => exact sim_moveT (hev x)
 case pick c a b =>
  simp only [actT, act]
  split
  ·rename_i t hc
   have e1 := hev c _ hc
   simp only [TV.raw, TG.raw, TB.raw] at e1
   rw [e1]
   simp only []
   cases t
   ·exact Sim.ofOpt (hev b)
   ·exact Sim.ofOpt (hev a)
  ·rename_i t hc
   have e1 := hev c _ hc
   simp only [TV.raw, TG.raw, TB.raw] at e1
   rw [e1]
   simp only []
   refine Sim.test (fun h => ?_) (fun h => ?_)
   ·subst h; exact Sim.ofOpt (hev a)
   ·subst h; exact Sim.ofOpt (hev b)
  ·exact Sim.fail
 case alloc t =>
  simp only [actT, act]
  split
  ·exact Sim.fail
  ·rename_i hna
   cases hz : zeroCellsT P t with
   | none => exact Sim.fail
   | some cs =>
    have hz' : zeroCells P t = some (cs.map TB.raw) := by
     unfold zeroCellsT at hz
     unfold zeroCells
     obtain ⟨zv, h1, h2⟩ := Option.bind_eq_some_iff.1 hz
     rw [h1, Option.map_some, ofVals_raw h2]
    rw [hz']
    refine Sim.mk ?_ (Sim.ret rfl)
    unfold rootOf
    split
    ·rename_i n e hu; exact absurd hu (hna n e)
    ·simp [TRoot.raw]
 case box t x =>
  simp only [actT, act]
  cases hc : (ev x).bind TV.cells with
  | none => exact Sim.fail
  | some cs =>
   rw [cells_raw (hev x) hc]
   exact Sim.mk (by simp [TRoot.raw]) (Sim.ret rfl)
 case build t parts => exact sim_buildT (o := ⟨dst, .build t parts, type, pos, after, guard⟩) hev rfl
 case buildSlice t n parts => exact sim_buildSliceT (o := ⟨dst, .buildSlice t n parts, type, pos, after, guard⟩) hev rfl
 case load t p => exact sim_loadT (hev p)
 case store t p x => exact sim_storeT (hev p) (hev x)
 case nilCheck x =>
  simp only [actT, act]
  split
  ·rename_i r g fo hx
   have e1 := hev x _ hx
   simp only [TV.raw, TG.raw, TB.raw] at e1
   rw [e1]; exact Sim.ret rfl
  ·rename_i r g e i fo hx
   have e1 := hev x _ hx
   simp only [TV.raw, TG.raw, TB.raw] at e1
   rw [e1]; exact Sim.ret rfl
  ·rename_i e xs i fo lo hx
   have e1 := hev x _ hx
   simp only [TV.raw, TG.raw, TB.raw] at e1
   rw [e1]; exact Sim.ret rfl
  ·rename_i f caps hx
   have e1 := hev x _ hx
   simp only [TV.raw] at e1
   rw [e1]; exact Sim.ret rfl
  ·rename_i f ps hx
   have e1 := hev x _ hx
   simp only [TV.raw, TG.raw, TB.raw] at e1
   rw [e1]; exact Sim.ret rfl
  ·by_cases hall : allConcT ev (Oper.op ⟨dst, .nilCheck x, type, pos, after, guard⟩).operands.toList = true
   ·obtain ⟨v, y, hv, hy⟩ := allConcT_spec hall x (by simp [Op.operands])
    have e1 := hev x v hv
    rw [e1]
    cases v with
    | g v =>
     cases v with
     | b v => cases v <;> first | exact sim_pureT hev | simp [TV.conc, TB.conc] at hy
     | ag l => exact sim_pureT hev
    | cl f c => simp [TV.conc] at hy
    | tp l => simp [TV.conc] at hy
   ·have : pureT P ⟨dst, .nilCheck x, type, pos, after, guard⟩ ev = .fail := by unfold pureT; rw [if_neg hall]
    rw [this]; exact Sim.fail
 case binOp op t x y m => exact sim_binT (o := ⟨dst, .binOp op t x y m, type, pos, after, guard⟩) hev rfl
 case unOp op m x => exact sim_unT (o := ⟨dst, .unOp op m x, type, pos, after, guard⟩) hev rfl
 case index t x i => exact sim_indexT (o := ⟨dst, .index t x i, type, pos, after, guard⟩) hev rfl
 case convert src dst' x => exact sim_convertT (base := base) (o := ⟨dst, .convert src dst' x, type, pos, after, guard⟩) hev rfl
 case makeFunc fn first captured =>
  cases fn with
  | func f =>
   simp only [actT, act]
   refine Sim.ite (fun hc => Sim.pos hc ?_) (fun hc => Sim.neg hc (sim_pureT hev))
   cases hcap : capsOfT ev captured.toList with
   | none => exact Sim.fail
   | some caps =>
    rw [capsOfT_raw hev hcap]
    exact Sim.ret rfl
  | _ => exact Sim.fail
 case makeSlice t l c => exact sim_makeSliceT (hev l) (hev c)
 case slice t x lo hi mx => exact sim_sliceT (o := ⟨dst, .slice t x lo hi mx, type, pos, after, guard⟩) hev rfl
 case fieldAddr s x f => exact sim_fieldAddrT (hev x)
 case indexAddr t x i => exact sim_indexAddrT (hev x) (hev i)
 case extract x i =>
  simp only [actT, act]
  split
  ·rename_i xs hx
   have e1 := hev x _ hx
   simp only [TV.raw] at e1
   rw [e1]
   simp only []
   cases hy : xs[i]? with
   | none => exact Sim.fail
   | some y =>
    rw [List.getElem?_map, hy]
    exact Sim.ret rfl
  ·exact Sim.fail
 case call c =>
  obtain ⟨callee, args, argTypes⟩ := c
  cases callee with
  | builtin b =>
   cases b <;> (try exact Sim.fail)
   case len =>
    simp only [actT, act]
    split
    ·rename_i x e hx he
     rw [hx, he]
     simp only []
     cases hn : lenT (ev x) with
     | none => exact Sim.fail
     | some n =>
      rw [lenT_raw (hev x) hn]
      exact Sim.ret rfl
    ·rename_i x hx he
     rw [hx, he]
     simp only []
     split
     ·rename_i l z hl hu hz
      obtain ⟨t, ht, hu⟩ := Option.bind_eq_some_iff.1 hu
      obtain ⟨c1, s1, _⟩ := concOf_raw hev hl (y := .string ⟨l.toArray⟩) rfl
      have hzx : z = x := by
       rw [← Array.getElem?_toList, hz] at hx
       simpa using hx
      subst hzx
      refine sim_one (o := ⟨dst, .call { callee := .builtin .len, args, argTypes }, type, pos, after, guard⟩) (y := .int .i64 l.length) (fun y hy => ?_) (fun cs b h => by cases h) ?_ rfl (fun cs h => by cases h)
      ·have hy2 : y ∈ ((#[] : Array Operand) ++ args).toList := hy
       have hy3 : y = z := by
        rw [Array.toList_append, hz] at hy2
        rcases List.mem_append.1 hy2 with h | h
        ·cases h
        ·exact List.mem_singleton.1 h
       rw [hy3]; exact s1
      ·have hargs : args.map (concOf ev') = #[.string ⟨l.toArray⟩] := by
        apply Array.ext'
        rw [Array.toList_map, hz]
        simp [c1]
       have hlen : runPure P (Builtin.len_ argTypes type #[.string ⟨l.toArray⟩]) = some (.int .i64 l.length) := by
        have hun := runPure_underlying hu
        simp [Builtin.len_, ht, runPure_bind, hun, goInt]
        rfl
       simp only [execOp, resolve, hargs, runPure_bind, runPure_pure, Option.bind_some, invoke, builtin, hlen]
     ·exact Sim.fail
    ·exact Sim.fail
   case append =>
    simp only [actT, act]
    split
    ·rename_i s x t tx ha hat
     rw [ha, hat]
     exact sim_appendT (hev s) (hev x)
    ·exact Sim.fail
   case clear =>
    simp only [actT, act]
    split
    ·rename_i x t ha hat
     rw [ha, hat]
     exact sim_clearT (hev x)
    ·exact Sim.fail
   case copy =>
    simp only [actT, act]
    split
    ·rename_i d s t tx ha hat
     rw [ha, hat]
     exact sim_copyT (hev d) (hev s)
    ·exact Sim.fail
   case min => exact sim_pureT hev
   case max => exact sim_pureT hev
  | value f => exact Sim.fail
  | invoke r n => exact Sim.fail
end
end Go.Gm
