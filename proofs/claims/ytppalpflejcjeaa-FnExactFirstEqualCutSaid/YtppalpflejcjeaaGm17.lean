/- Functions: what the interpreter answers, the model's program returns. -/
import Derived.Test.YtppalpflejcjeaaGm16
namespace Go.Gm
set_option linter.unusedSimpArgs false
set_option linter.unusedVariables false
set_option linter.unnecessarySimpa false

/-- A look at the whole program. -/
def progOK (P : Program) : Bool := P.funcs.all fun fn => !(fn.name == "runtime.NumGoroutine") && match fn.body with
  | some c => fits fn.ntmps c
  | none => true

def readVar (tmps : Array Value) : ResultVar → Sem Value
  | .tmp t => pure (tmps.getD t undef)
  | .cell a t => do loadVar t (← asAddr (tmps.getD a undef))
theorem results_eq (fn : Func) (tmps : Array Value) : results fn tmps = (do
    let vs ← fn.results.mapM (readVar tmps)
    pure (if h : vs.size = 1 then vs[0] else .tuple vs)) := by
  unfold results
  congr 1

section
variable {P : Program} {w : World} {ρ : Rho} {R : Tab} {N : Nat}

theorem loadAt_asAddr {t : TypeId} {ad : Addr} {y : Value} (h : (Instr.loadAt t (.pointer (some ad))).run P w = .ok y w) : (do loadVar t (← asAddr (.pointer (some ad)))).run P w = .ok y w := by
  simpa [Instr.loadAt, Instr.sureAddr, asAddr] using h

theorem sim_results {s : Slots} {a : Act} (hm : Mem w ρ R) (hs : SlotsOK N w ρ R (look s) a) : ∀ {l : List ResultVar} {xs : List G} {R' : Tab}, (resultsOf P s l).run R = some (xs, R') →
    R' = R ∧ ∃ ys : List Value, (l.mapM (readVar a.tmps)).run P w = .ok ys w ∧ RGs w ρ R xs ys
  | [], xs, R', h => by
    obtain ⟨rfl, rfl⟩ := Pr.ret_run h
    exact ⟨rfl, [], rfl, rfl, fun i x y hx => by simp at hx⟩
  | .tmp t :: l, xs, R', h => by
    simp only [resultsOf] at h
    split at h
    · rename_i x hx
      obtain ⟨xs1, R1, h1, h2⟩ := Pr.bind_run h
      obtain ⟨rfl, rfl⟩ := Pr.ret_run h2
      obtain ⟨eR, ys, hy, hr⟩ := sim_results hm hs h1
      refine ⟨eR, a.tmps.getD t undef :: ys, ?_, RGs.cons (hs.val t _ hx) hr⟩
      simp [List.mapM_cons, readVar, hy]
    · exact Pr.fail_run h
  | .cell d t :: l, xs, R', h => by
    simp only [resultsOf] at h
    split at h
    · rename_i r g off hx
      obtain ⟨v, R1, h1, h2⟩ := Pr.bind_run h
      have hp := hs.val d _ hx
      obtain ⟨hR, y, hy, hv⟩ := sim_load_at (pv := a.tmps.getD d undef) hm (fun v hv => by cases hv; exact hp) h1
      rw [hR] at h2
      obtain ⟨ad, had⟩ := hp.1
      split at h2
      · rename_i x
        obtain ⟨xs1, R2, h3, h4⟩ := Pr.bind_run h2
        obtain ⟨rfl, rfl⟩ := Pr.ret_run h4
        obtain ⟨eR, ys, hys, hr⟩ := sim_results hm hs h3
        refine ⟨eR, y :: ys, ?_, RGs.cons hv hr⟩
        rw [had] at hy
        have := loadAt_asAddr hy
        simp only [List.mapM_cons, readVar, had, Sem.run_bind, hys]
        simp only [Sem.run_bind] at this
        rw [this]
        simp [hys]
      · exact Pr.fail_run h2
    · exact Pr.fail_run h

theorem resultV_R {xs : List G} {ys : List Value} (h : RGs w ρ R xs ys) : RV w ρ R (resultV xs) (if h : ys.toArray.size = 1 then ys.toArray[0] else .tuple ys.toArray) := by
  cases xs with
  | nil =>
    have : ys = [] := List.length_eq_zero_iff.1 (by have := h.1; simpa using this.symm)
    subst this
    exact ⟨#[], rfl, h⟩
  | cons x xs =>
    obtain ⟨y, ys1, rfl, hx, hs⟩ := h.tail
    cases xs with
    | nil =>
      have : ys1 = [] := List.length_eq_zero_iff.1 (by have := hs.1; simpa using this.symm)
      subst this
      exact hx
    | cons x2 xs2 =>
      obtain ⟨y2, ys2, rfl, _⟩ := hs.tail
      rw [dif_neg (by simp)]
      exact ⟨_, rfl, h⟩
end

theorem slotsOf_look : ∀ {vs : List V} {k t : Nat} {v : V}, look (slotsOf k vs) t = some v → k ≤ t ∧ vs[t - k]? = some v
  | [], k, t, v, h => by simp [slotsOf, look] at h
  | x :: vs, k, t, v, h => by
    simp only [slotsOf, look] at h
    split at h
    · rename_i e; subst e; cases h; simp
    · obtain ⟨h1, h2⟩ := slotsOf_look h
      exact ⟨by omega, by rw [show t - k = (t - (k + 1)) + 1 by omega]; simpa using h2⟩

theorem progOK_spec {P : Program} (h : progOK P = true) {f : FuncId} {fn : Func} (hf : P.funcs[f]? = some fn) : (fn.name == "runtime.NumGoroutine") = false ∧ ∀ c, fn.body = some c → fits fn.ntmps c = true := by
  have := Array.all_eq_true'.1 h fn (Array.mem_of_getElem? hf)
  simp only [Bool.and_eq_true, Bool.not_eq_true'] at this
  refine ⟨this.1, fun c hc => ?_⟩
  have h2 := this.2
  rw [hc] at h2
  exact h2

theorem sem_sound {E : Env} (hmix : E.P.follows .mixedOrders = true) (hok : progOK E.P = true) (hlib : ∀ f F, E.lib f = some F → FnOK E.P f F) : ∀ (k : Nat) (f : FuncId), FnOK E.P f (sem E k f)
  | 0, f => fun args R res R' h => by cases h
  | k + 1, f => by
    intro args R res R' h
    simp only [sem] at h
    cases hl : E.lib f with
    | some F => rw [hl] at h; exact hlib f F hl args R res R' h
    | none =>
      rw [hl] at h
      simp only at h
      cases hfn : E.P.funcs[f]? with
      | none => rw [hfn] at h; cases h
      | some fn =>
        rw [hfn] at h
        simp only at h
        cases hb : fn.body with
        | none => rw [hb] at h; cases h
        | some c =>
          rw [hb] at h
          simp only at h
          obtain ⟨hname, hfit⟩ := progOK_spec hok hfn
          refine ⟨⟨fn, rfl, by simp [hb], hname⟩, fun w ρ vs hm hlive hvs => calls_of_wp hfn hb ?_⟩
          have hinv : Inv w ρ R fn.ntmps (slotsOf 0 args) R { tmps := vs.toArray ++ Array.replicate (fn.ntmps - vs.toArray.size) undef, defers := [] } w := by
            refine ⟨ρ, .refl hm, rfl, by simp; omega, fun t v hv => ?_⟩
            obtain ⟨_, hv⟩ := slotsOf_look hv
            simp only [Nat.sub_zero] at hv
            have hlt : t < vs.length := by rw [← hvs.1]; exact (List.getElem?_eq_some_iff.1 hv).1
            have := hvs.2 t v vs[t] hv (List.getElem?_eq_getElem hlt)
            have e : (vs.toArray ++ Array.replicate (fn.ntmps - vs.toArray.size) undef).getD t undef = vs[t] := by
              rw [Array.getD_eq_getD_getElem?, Array.getElem?_append_left (by simpa using hlt)]
              simp [hlt]
            show RV w ρ R v ((vs.toArray ++ Array.replicate (fn.ntmps - vs.toArray.size) undef).getD t undef)
            rw [e]; exact this
          have fin : ∀ {s : Slots} {R2 : Tab} {a : Act} {w' : World}, Inv w ρ R fn.ntmps s R2 a w' → finish E.P fn R.length s R2 = some (res, R') →
              a.defers = [] ∧ ∃ v, (results fn a.tmps).run E.P w' = .ok v w' ∧ ∃ x ρ', Ending.returned v = .returned x ∧ Step w ρ R w' ρ' R' ∧ RV w' ρ' R' res x := by
            rintro s R2 a w' ⟨ρ2, st, hs⟩ hfin
            refine ⟨hs.defers, ?_⟩
            unfold finish at hfin
            split at hfin
            · rename_i xs R3 hr
              obtain ⟨rfl, ys, hy, hg⟩ := sim_results st.mem hs hr
              split at hfin
              · rename_i v R4 hc
                cases hfin
                obtain ⟨ρ3, st3, F, hF, hR⟩ := Step.compact hlive st hc
                simp only [List.map_cons, List.map_nil, List.cons.injEq, and_true] at hF
                subst hF
                refine ⟨_, ?_, _, ρ3, rfl, st3, hR _ _ (resultV_R hg)⟩
                rw [results_eq]
                simp only [Array.mapM_eq_mapM_toList, Sem.run_bind, Sem.run_map, hy, Result.andThen_ok, Sem.run_pure]
              · cases hfin
            · cases hfin
          cases hev : ev E (sem E k) R.length f k c (slotsOf 0 args) R with
          | none => rw [hev] at h; cases h
          | some r =>
            obtain ⟨ex, s, R2⟩ := r
            rw [hev] at h
            refine ev_sound hmix (sem_sound hmix hok hlib k) hlive rfl hev (hfit c hb) hinv fun a' w' hi => ?_
            cases ex with
            | norm => exact fin hi h
            | ret => exact fin hi h
            | exit id => cases h

end Go.Gm
