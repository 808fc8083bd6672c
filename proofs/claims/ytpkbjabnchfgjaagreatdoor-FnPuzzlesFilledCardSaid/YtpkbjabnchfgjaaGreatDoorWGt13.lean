import Derived.Test.YtpkbjabnchfgjaaGreatDoorWGt12
namespace Go.Gm
set_option linter.unusedSimpArgs false
set_option linter.unusedVariables false
def zhw (P : Program) (s : zat) : List ResultVar → TP (List TG)
 | [] => .ret []
 | .tmp t :: rest => match ziz s t with
  | some (.g x) => (zhw P s rest).bind fun xs => .ret (x :: xs)
  | _ => .fail
 | .cell a t :: rest => match ziz s a with
  | some (.g (.b (.pf r g fo))) => (za0z P t (some (.g (.b (.pf r g fo))))).bind fun v => match v with
   | .g x => (zhw P s rest).bind fun xs => .ret (x :: xs)
   | _ => .fail
  | _ => .fail
def zga : List TG → TV
 | [x] => .g x
 | xs => .tp xs
def finT (P : Program) (m : Nat) (fl : List (Option ETy)) (fn : Func) (s : zat) (R : TTab) : T (TV × TTab) :=
 (((zhw P s fn.results.toList).bind fun xs => (ztd fl xs).bind fun xs => (zv8 m [zga xs]).bind fun ids => .ret (ids, zga xs)).runF R [] []).bind fun r =>
   .ret (r.1.2.mapR (renT m r.1.1), zw2 m r.1.1 0 r.1.1)
def z4n : Nat → List TV → zat
 | _, [] => []
 | t, v :: vs => (t, v) :: z4n (t + 1) vs
def fnT (E : TEnv) (told : Nat → Option zal) (m : Nat) (fl : List (Option ETy)) (fn : Func) (c : Code) (args : List TV) (R : TTab) : T (TV × TTab) :=
 (evCT E told c (z4n 0 args) R).bind fun r => match r with
  | (.norm, s, R') => finT E.P m fl fn s R'
  | (.ret, s, R') => finT E.P m fl fn s R'
  | (.exit _, _, _) => .fail
def zve (P : Program) (f : FuncId) (args : List V) (R : Tab) (res : V) (R' : Tab) : Prop :=
 zfw P f ∧ ∀ w ρ vs, Mem w ρ R → AllZ R → RVs w ρ R args vs → Calls P f vs.toArray w fun e w' => ∃ x ρ', e = .returned x ∧ Step w ρ R w' ρ' R' ∧ RV w' ρ' R' res x
theorem zi9 {P : Program} {s : zat} : ∀ (l : List ResultVar), Sim (zhw P s l) (zep P (zas s) l) (List.map TG.raw)
 | [] => Sim.ret rfl
 | .tmp t :: l => by
  simp only [zhw, zep, zeo]
  cases hl : ziz s t with
  | none => exact Sim.fail
  | some v =>
   cases v with
   | g x => exact Sim.bind (zi9 l) fun xs => Sim.ret rfl
   | cl f c => exact Sim.fail
   | tp xs => exact Sim.fail
 | .cell a t :: l => by
  simp only [zhw, zep, zeo]
  split
  ·rename_i r g fo hl
   rw [hl]
   show Sim _ ((zfb P t (some (.g (.b (.pt r g fo))))).bind _) _
   refine Sim.bind (z4i (p := some (.g (.b (.pf r g fo)))) (fun v hv => by cases hv; rfl)) fun v => ?_
   cases v with
   | g x => exact Sim.bind (zi9 l) fun xs => Sim.ret rfl
   | cl f c => exact Sim.fail
   | tp xs => exact Sim.fail
  ·exact Sim.fail
theorem zgz (xs : List TG) : (zga xs).raw = zk7 (xs.map TG.raw) := by
 cases xs with
 | nil => rfl
 | cons x xs => cases xs <;> rfl
theorem zw0 : ∀ (k : Nat) (args : List TV), zas (z4n k args) = zuo k (args.map TV.raw)
 | k, [] => rfl
 | k, v :: vs => by
  show (k, v.raw) :: zas (z4n (k + 1) vs) = _
  rw [zw0 (k + 1) vs]; rfl
theorem zapy {E : TEnv} {told : Nat → Option zal} {f : FuncId} {fn : Func} {c : Code} {fl : List (Option ETy)} {args : List TV} {R R' : TTab} {res : TV} (hmix : E.P.follows .mixedOrders = true) (hlib : E.LibOK) (hrec : ∀ f, FnOK E.P f (E.raw f))
  (hfn : E.P.funcs[f]? = some fn) (hb : fn.body = some c) (hname : (fn.name == "runtime.NumGoroutine") = false) (hfit : fits fn.ntmps c = true) (hloops : zfx E.P R.length told c)
  (h : (fnT E told R.length fl fn c args R).run = some (res, R')) : zve E.P f (args.map TV.raw) (zaf R) res.raw (zaf R') := by
 refine ⟨⟨fn, hfn, by simp [hb], hname⟩, fun w ρ vs hm hlive hvs => calls_of_wp hfn hb ?_⟩
 obtain ⟨⟨ex, s, R2⟩, h1, h2⟩ := T.bind_run h
 have hinv : Inv w ρ (zaf R) fn.ntmps (zas (z4n 0 args)) (zaf R) { tmps := vs.toArray ++ Array.replicate (fn.ntmps - vs.toArray.size) undef, defers := [] } w := by
  rw [zw0]
  refine ⟨ρ, .refl hm, rfl, by simp; omega, fun t v hv => ?_⟩
  obtain ⟨_, hv⟩ := zpn hv
  simp only [Nat.sub_zero] at hv
  have hlt : t < vs.length := by rw [← hvs.1]; exact (qh.1 hv).1
  have := hvs.2 t v vs[t] hv (qb hlt)
  have e : (vs.toArray ++ Array.replicate (fn.ntmps - vs.toArray.size) undef).getD t undef = vs[t] := by
   rw [Array.getD_eq_getD_getElem?, Array.getElem?_append_left (by simpa using hlt)]
   simp [hlt]
  show RV w ρ (zaf R) v ((vs.toArray ++ Array.replicate (fn.ntmps - vs.toArray.size) undef).getD t undef)
  rw [e]; exact this
 have fin : ∀ {s : zat} {R2 : TTab} {a : Act} {w' : World}, Inv w ρ (zaf R) fn.ntmps (zas s) (zaf R2) a w' → (finT E.P R.length fl fn s R2).run = some (res, R') →
   a.defers = [] ∧ ∃ v, (results fn a.tmps).run E.P w' = .ok v w' ∧ ∃ x ρ', Ending.returned v = .returned x ∧ Step w ρ (zaf R) w' ρ' (zaf R') ∧ RV w' ρ' (zaf R') res.raw x := by
  rintro s R2 a w' ⟨ρ2, st, hs⟩ hfin
  refine ⟨hs.defers, ?_⟩
  obtain ⟨⟨⟨ids, v⟩, R3, t3, c3⟩, k1, k2⟩ := T.bind_run hfin
  simp only [T.run, qc, qr] at k2
  obtain ⟨rfl, rfl⟩ := k2
  have hsim : Sim ((zhw E.P s fn.results.toList).bind fun xs => (ztd fl xs).bind fun xs => (zv8 R.length [zga xs]).bind fun ids => TP.ret (ids, zga xs))
    ((zep E.P (zas s) fn.results.toList).bind fun xs => (z2s (fl.map Option.isSome) xs).bind fun xs => (z7j R.length [zk7 xs]).bind fun ids => Pr.ret (ids, zk7 xs)) (fun p : TIds × TV => (zau p.1, p.2.raw)) := by
   refine Sim.bind (zi9 _) fun xs => Sim.bind (zug fl xs) fun xs => ?_
   have := zoj R.length [zga xs]
   simp only [qu, List.map_nil, zgz] at this
   exact Sim.bind this fun ids => Sim.ret (by simp only [zgz])
  obtain ⟨hr, _, _⟩ := hsim _ _ _ _ _ _ _ k1
  obtain ⟨xs, Ra, g1, g2⟩ := Pr.bind_run hr
  obtain ⟨xs2, Rb, g3, g4⟩ := Pr.bind_run g2
  obtain ⟨ids2, Rc, g5, g6⟩ := Pr.bind_run g4
  obtain ⟨e1, e2⟩ := Pr.ret_run g6
  simp only [qr] at e1
  obtain ⟨rfl, e1b⟩ := e1
  subst e2
  obtain ⟨hRa, ys, hy, hg⟩ := zlc st.mem hs g1
  subst hRa
  obtain ⟨st1, hg2⟩ := zws st.mem g3 hg
  have hc : compact (zaf R).length [zk7 xs2] Rb = some ([zk7 xs2].map (renV R.length (zau ids)), zcg R.length (zau ids) 0 (zau ids)) := by
   unfold compact; rw [zhu, g5]
  obtain ⟨ρ3, st3, F, hF, hR⟩ := Step.compact hlive (st.trans st1) hc
  simp only [qu, List.map_nil, List.cons.injEq, and_true] at hF
  rw [zt1, zhb, e1b, hF]
  refine ⟨_, ?_, _, ρ3, rfl, st3, hR _ _ (zat1 hg2)⟩
  rw [zae5]
  simp only [Array.mapM_eq_mapM_toList, Sem.run_bind, Sem.run_map, hy, Result.andThen_ok, Sem.run_pure]
 have hc := zbq hmix hlib hrec hloops h1
 refine hc hlive (by rw [zhu]) hfit hinv fun a' w' hi => ?_
 cases ex with
 | norm => exact fin hi h2
 | ret => exact fin hi h2
 | exit id => cases h2
end Go.Gm
