import Derived.Test.YtpkbjabnchfgjaaGreatDoorWGm16
namespace Go.Gm
set_option linter.unusedSimpArgs false
set_option linter.unusedVariables false
set_option linter.unnecessarySimpa false
def zzx (tmps : Array Value) : ResultVar → Sem Value
 | .tmp t => pure (tmps.getD t undef)
 | .cell a t => do loadVar t (← asAddr (tmps.getD a undef))
theorem zae5 (fn : Func) (tmps : Array Value) : results fn tmps = (do
  let vs ← fn.results.mapM (zzx tmps)
  pure (if h : vs.size = 1 then vs[0] else .tuple vs)) := by
 unfold results
 congr 1
section
variable {P : Program} {w : World} {ρ : Rho} {R : Tab} {N : Nat}
theorem zzl {t : TypeId} {ad : Addr} {y : Value} (h : (Instr.loadAt t (.pointer (some ad))).run P w = .ok y w) : (do loadVar t (← asAddr (.pointer (some ad)))).run P w = .ok y w := by
 simpa [Instr.loadAt, Instr.sureAddr, asAddr] using h
theorem zlc {s : zej} {a : Act} (hm : Mem w ρ R) (hs : SlotsOK N w ρ R (look s) a) : ∀ {l : List ResultVar} {xs : List G} {R' : Tab}, (zep P s l).run R = some (xs, R') →
  R' = R ∧ ∃ ys : List Value, (l.mapM (zzx a.tmps)).run P w = .ok ys w ∧ RGs w ρ R xs ys
 | [], xs, R', h => by
  obtain ⟨rfl, rfl⟩ := Pr.ret_run h
  exact ⟨rfl, [], rfl, rfl, fun i x y hx => by simp at hx⟩
 | .tmp t :: l, xs, R', h => by
  simp only [zep] at h
  split at h
  ·rename_i x hx
   obtain ⟨xs1, R1, h1, h2⟩ := Pr.bind_run h
   obtain ⟨rfl, rfl⟩ := Pr.ret_run h2
   obtain ⟨eR, ys, hy, hr⟩ := zlc hm hs h1
   refine ⟨eR, a.tmps.getD t undef :: ys, ?_, RGs.cons (hs.val t _ hx) hr⟩
   simp [List.mapM_cons, zzx, hy]
  ·exact Pr.fail_run h
 | .cell d t :: l, xs, R', h => by
  simp only [zep] at h
  split at h
  ·rename_i r g off hx
   obtain ⟨v, R1, h1, h2⟩ := Pr.bind_run h
   have hp := hs.val d _ hx
   obtain ⟨hR, y, hy, hv⟩ := zui (pv := a.tmps.getD d undef) hm (fun v hv => by cases hv; exact hp) h1
   rw [hR] at h2
   obtain ⟨ad, had⟩ := hp.1
   split at h2
   ·rename_i x
    obtain ⟨xs1, R2, h3, h4⟩ := Pr.bind_run h2
    obtain ⟨rfl, rfl⟩ := Pr.ret_run h4
    obtain ⟨eR, ys, hys, hr⟩ := zlc hm hs h3
    refine ⟨eR, y :: ys, ?_, RGs.cons hv hr⟩
    rw [had] at hy
    have := zzl hy
    simp only [List.mapM_cons, zzx, had, Sem.run_bind, hys]
    simp only [Sem.run_bind] at this
    rw [this]
    simp [hys]
   ·exact Pr.fail_run h2
  ·exact Pr.fail_run h
theorem zat1 {xs : List G} {ys : List Value} (h : RGs w ρ R xs ys) : RV w ρ R (zk7 xs) (if h : ys.toArray.size = 1 then ys.toArray[0] else .tuple ys.toArray) := by
 cases xs with
 | nil =>
  have : ys = [] := List.length_eq_zero_iff.1 (by have := h.1; simpa using this.symm)
  subst this
  exact ⟨#[], rfl, h⟩
 | cons x xs =>
  obtain ⟨y, ys1, rfl, hx, hs⟩ := h.tail
  cases xs with
  | nil =>
   have : ys1 = [] := List.length_eq_zero_iff.1 (by have := hs.1; simpa using this.symm)
   subst this
   exact hx
  | cons x2 xs2 =>
   obtain ⟨y2, ys2, rfl, _⟩ := hs.tail
   rw [dif_neg (by simp)]
   exact ⟨_, rfl, h⟩
end
theorem zpn : ∀ {vs : List V} {k t : Nat} {v : V}, look (zuo k vs) t = some v → k ≤ t ∧ vs[t - k]? = some v
 | [], k, t, v, h => by simp [zuo, look] at h
 | x :: vs, k, t, v, h => by
  simp only [zuo, look] at h
  split at h
  ·rename_i e; subst e; cases h; simp
  ·obtain ⟨h1, h2⟩ := zpn h
   exact ⟨by omega, by rw [show t - k = (t - (k + 1)) + 1 by omega]; simpa using h2⟩
end Go.Gm
