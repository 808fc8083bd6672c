import Derived.Test.YtppalpflejcjeaaGreatQGt12
namespace Go.Gm
set_option linter.unusedSimpArgs false
set_option linter.unusedVariables false
def resultsT (P : Program) (s : TSlots) : List ResultVar → TP (List TG)
 | [] => .ret []
 | .tmp t :: rest => match lookT s t with
  | some (.g x) => (resultsT P s rest).bind fun xs => .ret (x :: xs)
  | _ => .fail
 | .cell a t :: rest => match lookT s a with
  | some (.g (.b (.pf r g fo))) => (loadT P t (some (.g (.b (.pf r g fo))))).bind fun v => match v with
   | .g x => (resultsT P s rest).bind fun xs => .ret (x :: xs)
   | _ => .fail
  | _ => .fail
def resultTV : List TG → TV
 | [x] => .g x
 | xs => .tp xs
def finT (P : Program) (m : Nat) (fl : List (Option ETy)) (fn : Func) (s : TSlots) (R : TTab) : T (TV × TTab) :=
 (((resultsT P s fn.results.toList).bind fun xs => (giveTGs fl xs).bind fun xs => (idsOfT m [resultTV xs]).bind fun ids => .ret (ids, resultTV xs)).runF R [] []).bind fun r =>
   .ret (r.1.2.mapR (renT m r.1.1), tabOfT m r.1.1 0 r.1.1)
def slotsT : Nat → List TV → TSlots
 | _, [] => []
 | t, v :: vs => (t, v) :: slotsT (t + 1) vs
def fnT (E : TEnv) (told : Nat → Option SealT) (m : Nat) (fl : List (Option ETy)) (fn : Func) (c : Code) (args : List TV) (R : TTab) : T (TV × TTab) :=
 (evCT E told c (slotsT 0 args) R).bind fun r => match r with
  | (.norm, s, R') => finT E.P m fl fn s R'
  | (.ret, s, R') => finT E.P m fl fn s R'
  | (.exit _, _, _) => .fail
def CallOK (P : Program) (f : FuncId) (args : List V) (R : Tab) (res : V) (R' : Tab) : Prop :=
 FnFacts P f ∧ ∀ w ρ vs, Mem w ρ R → AllZ R → RVs w ρ R args vs → Calls P f vs.toArray w fun e w' => ∃ x ρ', e = .returned x ∧ Step w ρ R w' ρ' R' ∧ RV w' ρ' R' res x
theorem sim_resultsT {P : Program} {s : TSlots} : ∀ (l : List ResultVar), Sim (resultsT P s l) (resultsOf P (rawSlots s) l) (List.map TG.raw)
 | [] => Sim.ret rfl
 | .tmp t :: l => by
  simp only [resultsT, resultsOf, lookT_raw]
  cases hl : lookT s t with
  | none => exact Sim.fail
  | some v =>
   cases v with
   | g x => exact Sim.bind (sim_resultsT l) fun xs => Sim.ret rfl
   | cl f c => exact Sim.fail
   | tp xs => exact Sim.fail
 | .cell a t :: l => by
  simp only [resultsT, resultsOf, lookT_raw]
  split
  ·rename_i r g fo hl
   rw [hl]
   show Sim _ ((actLoad P t (some (.g (.b (.pt r g fo))))).bind _) _
   refine Sim.bind (sim_loadT (p := some (.g (.b (.pf r g fo)))) (fun v hv => by cases hv; rfl)) fun v => ?_
   cases v with
   | g x => exact Sim.bind (sim_resultsT l) fun xs => Sim.ret rfl
   | cl f c => exact Sim.fail
   | tp xs => exact Sim.fail
  ·exact Sim.fail
theorem resultTV_raw (xs : List TG) : (resultTV xs).raw = resultV (xs.map TG.raw) := by
 cases xs with
 | nil => rfl
 | cons x xs => cases xs <;> rfl
theorem slotsT_raw : ∀ (k : Nat) (args : List TV), rawSlots (slotsT k args) = slotsOf k (args.map TV.raw)
 | k, [] => rfl
 | k, v :: vs => by
  show (k, v.raw) :: rawSlots (slotsT (k + 1) vs) = _
  rw [slotsT_raw (k + 1) vs]; rfl
theorem fnT_sound {E : TEnv} {told : Nat → Option SealT} {f : FuncId} {fn : Func} {c : Code} {fl : List (Option ETy)} {args : List TV} {R R' : TTab} {res : TV} (hmix : E.P.follows .mixedOrders = true) (hlib : E.LibOK) (hrec : ∀ f, FnOK E.P f (E.raw f))
  (hfn : E.P.funcs[f]? = some fn) (hb : fn.body = some c) (hname : (fn.name == "runtime.NumGoroutine") = false) (hfit : fits fn.ntmps c = true) (hloops : LoopsOK E.P R.length told c)
  (h : (fnT E told R.length fl fn c args R).run = some (res, R')) : CallOK E.P f (args.map TV.raw) (rawTab R) res.raw (rawTab R') := by
 refine ⟨⟨fn, hfn, by simp [hb], hname⟩, fun w ρ vs hm hlive hvs => calls_of_wp hfn hb ?_⟩
 obtain ⟨⟨ex, s, R2⟩, h1, h2⟩ := T.bind_run h
 have hinv : Inv w ρ (rawTab R) fn.ntmps (rawSlots (slotsT 0 args)) (rawTab R) { tmps := vs.toArray ++ Array.replicate (fn.ntmps - vs.toArray.size) undef, defers := [] } w := by
  rw [slotsT_raw]
  refine ⟨ρ, .refl hm, rfl, by simp; omega, fun t v hv => ?_⟩
  obtain ⟨_, hv⟩ := slotsOf_look hv
  simp only [Nat.sub_zero] at hv
  have hlt : t < vs.length := by rw [← hvs.1]; exact (List.getElem?_eq_some_iff.1 hv).1
  have := hvs.2 t v vs[t] hv (List.getElem?_eq_getElem hlt)
  have e : (vs.toArray ++ Array.replicate (fn.ntmps - vs.toArray.size) undef).getD t undef = vs[t] := by
   rw [Array.getD_eq_getD_getElem?, Array.getElem?_append_left (by simpa using hlt)]
   simp [hlt]
  show RV w ρ (rawTab R) v ((vs.toArray ++ Array.replicate (fn.ntmps - vs.toArray.size) undef).getD t undef)
  rw [e]; exact this
 have fin : ∀ {s : TSlots} {R2 : TTab} {a : Act} {w' : World}, Inv w ρ (rawTab R) fn.ntmps (rawSlots s) (rawTab R2) a w' → (finT E.P R.length fl fn s R2).run = some (res, R') →
   a.defers = [] ∧ ∃ v, (results fn a.tmps).run E.P w' = .ok v w' ∧ ∃ x ρ', Ending.returned v = .returned x ∧ Step w ρ (rawTab R) w' ρ' (rawTab R') ∧ RV w' ρ' (rawTab R') res.raw x := by
  rintro s R2 a w' ⟨ρ2, st, hs⟩ hfin
  refine ⟨hs.defers, ?_⟩
  obtain ⟨⟨⟨ids, v⟩, R3, t3, c3⟩, k1, k2⟩ := T.bind_run hfin
  simp only [T.run, Option.some.injEq, Prod.mk.injEq] at k2
  obtain ⟨rfl, rfl⟩ := k2
  have hsim : Sim ((resultsT E.P s fn.results.toList).bind fun xs => (giveTGs fl xs).bind fun xs => (idsOfT R.length [resultTV xs]).bind fun ids => TP.ret (ids, resultTV xs))
    ((resultsOf E.P (rawSlots s) fn.results.toList).bind fun xs => (giveGs (fl.map Option.isSome) xs).bind fun xs => (idsOf R.length [resultV xs]).bind fun ids => Pr.ret (ids, resultV xs)) (fun p : TIds × TV => (rawIds p.1, p.2.raw)) := by
   refine Sim.bind (sim_resultsT _) fun xs => Sim.bind (sim_giveTGs fl xs) fun xs => ?_
   have := sim_idsOfT R.length [resultTV xs]
   simp only [List.map_cons, List.map_nil, resultTV_raw] at this
   exact Sim.bind this fun ids => Sim.ret (by simp only [resultTV_raw])
  obtain ⟨hr, _, _⟩ := hsim _ _ _ _ _ _ _ k1
  obtain ⟨xs, Ra, g1, g2⟩ := Pr.bind_run hr
  obtain ⟨xs2, Rb, g3, g4⟩ := Pr.bind_run g2
  obtain ⟨ids2, Rc, g5, g6⟩ := Pr.bind_run g4
  obtain ⟨e1, e2⟩ := Pr.ret_run g6
  simp only [Prod.mk.injEq] at e1
  obtain ⟨rfl, e1b⟩ := e1
  subst e2
  obtain ⟨hRa, ys, hy, hg⟩ := sim_results st.mem hs g1
  subst hRa
  obtain ⟨st1, hg2⟩ := sim_giveGs st.mem g3 hg
  have hc : compact (rawTab R).length [resultV xs2] Rb = some ([resultV xs2].map (renV R.length (rawIds ids)), tabOf R.length (rawIds ids) 0 (rawIds ids)) := by
   unfold compact; rw [rawTab_length, g5]
  obtain ⟨ρ3, st3, F, hF, hR⟩ := Step.compact hlive (st.trans st1) hc
  simp only [List.map_cons, List.map_nil, List.cons.injEq, and_true] at hF
  rw [renTV_raw, tabOfT_raw, e1b, hF]
  refine ⟨_, ?_, _, ρ3, rfl, st3, hR _ _ (resultV_R hg2)⟩
  rw [results_eq]
  simp only [Array.mapM_eq_mapM_toList, Sem.run_bind, Sem.run_map, hy, Result.andThen_ok, Sem.run_pure]
 have hc := evCT_sound hmix hlib hrec hloops h1
 refine hc hlive (by rw [rawTab_length]) hfit hinv fun a' w' hi => ?_
 cases ex with
 | norm => exact fin hi h2
 | ret => exact fin hi h2
 | exit id => cases h2
end Go.Gm
