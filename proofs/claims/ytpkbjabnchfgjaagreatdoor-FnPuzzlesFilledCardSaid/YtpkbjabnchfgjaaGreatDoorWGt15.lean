import Derived.Test.YtpkbjabnchfgjaaGreatDoorWGt14
namespace Go.Gm
open Go
set_option linter.unusedVariables false
def ownB : TB → List ETy → Nat → TB × List ETy × Nat
 | .ro e xs ex lo, es, k => match xs, ex, es with
  | [], true, _ :: es => (.rf k 0 0 0, es, k + 1)
  | xs, ex, es => (.ro e xs ex lo, es, k)
 | x, es, k => (x, es, k)
def z3s : List TB → List ETy → Nat → List TB × List ETy × Nat
 | [], es, k => ([], es, k)
 | x :: xs, es, k => let r := ownB x es k; let s := z3s xs r.2.1 r.2.2; (r.1 :: s.1, s.2)
def ownG : TG → List ETy → Nat → TG × List ETy × Nat
 | .b x, es, k => let r := ownB x es k; (.b r.1, r.2)
 | .ag xs, es, k => let r := z3s xs es k; (.ag r.1, r.2)
def z3t : List TG → List ETy → Nat → List TG × List ETy × Nat
 | [], es, k => ([], es, k)
 | x :: xs, es, k => let r := ownG x es k; let s := z3t xs r.2.1 r.2.2; (r.1 :: s.1, s.2)
def ownV : TV → List ETy → Nat → TV
 | .g x, es, k => .g (ownG x es k).1
 | .tp xs, es, k => .tp (z3t xs es k).1
 | x, _, _ => x
def row0 (e : ETy) : TEnt := .live (.row 0 e [])
def ownT (es : List ETy) (p : TV × TTab) : TV × TTab := (ownV p.1 es p.2.length, p.2 ++ es.map row0)
variable {w : World} {ρ : Rho} {R : Tab}
def Rows0 (R : Tab) (k : Nat) (es : List ETy) : Prop := ∀ i e, es[i]? = some e → R[k + i]? = some (row0 e).raw ∧ 0 < sz e
theorem Rows0.tail {k : Nat} {e : ETy} {es : List ETy} (h : Rows0 R k (e :: es)) : Rows0 R (k + 1) es := fun i e' hi => by
 have := h (i + 1) e' (by simpa using hi)
 rwa [show k + (i + 1) = k + 1 + i by omega] at this
theorem zatn {x : TB} {es : List ETy} {k : Nat} {y : Value} (h : RB w ρ R x.raw y) (hr : Rows0 R k es) : RB w ρ R (ownB x es k).1.raw y ∧ Rows0 R (ownB x es k).2.2 (ownB x es k).2.1 := by
 cases x with
 | ro e xs ex lo =>
  cases xs with
  | cons x t => exact ⟨h, hr⟩
  | nil =>
   cases ex with
   | false => exact ⟨h, hr⟩
   | true =>
    cases es with
    | nil => exact ⟨h, hr⟩
    | cons e' es' =>
     obtain ⟨h1, h2⟩ := hr 0 e' rfl
     refine ⟨?_, hr.tail⟩
     obtain ⟨a, cap, rfl, hn, hex, _⟩ := h
     have hc : cap = 0 := hex rfl
     subst hc
     refine ⟨⟨a, 0, rfl⟩, (row0 e').raw, h1, (fun h => by cases h), fun rt hrt => ?_⟩
     cases hrt
     exact ⟨qi _, fun _ => ⟨a, 0, rfl, qi _, h2, rfl, Nat.zero_le _, .inl rfl⟩⟩
 | _ => exact ⟨h, hr⟩
theorem zaca : ∀ {xs : List TB} {es : List ETy} {k : Nat} {ys : List Value}, RBs w ρ R (xs.map TB.raw) ys → Rows0 R k es → RBs w ρ R ((z3s xs es k).1.map TB.raw) ys ∧ Rows0 R (z3s xs es k).2.2 (z3s xs es k).2.1
 | [], es, k, ys, h, hr => ⟨h, hr⟩
 | x :: xs, es, k, ys, h, hr => by
  obtain ⟨hl, h⟩ := h
  match ys, hl with
  | y :: ys, hl =>
   obtain ⟨a1, a2⟩ := zatn (h 0 _ y rfl rfl) hr
   obtain ⟨⟨b0, b1⟩, b2⟩ := zaca (xs := xs) (ys := ys) ⟨by simpa using hl, fun i x' y' h1 h2 => h (i + 1) x' y' (by simpa using h1) (by simpa using h2)⟩ a2
   refine ⟨⟨by simpa [z3s] using b0, fun i x' y' h1 h2 => ?_⟩, b2⟩
   cases i with
   | zero => simp only [z3s, qu, kk, qc] at h1 h2; subst h1; subst h2; exact a1
   | succ i => exact b1 i x' y' (by simpa [z3s] using h1) (by simpa using h2)
theorem zato {x : TG} {es : List ETy} {k : Nat} {y : Value} (h : RG w ρ R x.raw y) (hr : Rows0 R k es) : RG w ρ R (ownG x es k).1.raw y ∧ Rows0 R (ownG x es k).2.2 (ownG x es k).2.1 := by
 cases x with
 | b x => exact zatn (x := x) h hr
 | ag xs =>
  obtain ⟨ys, rfl, h⟩ := h
  obtain ⟨h1, h2⟩ := zaca h hr
  exact ⟨⟨ys, rfl, h1⟩, h2⟩
theorem zacb : ∀ {xs : List TG} {es : List ETy} {k : Nat} {ys : List Value}, RGs w ρ R (xs.map TG.raw) ys → Rows0 R k es → RGs w ρ R ((z3t xs es k).1.map TG.raw) ys ∧ Rows0 R (z3t xs es k).2.2 (z3t xs es k).2.1
 | [], es, k, ys, h, hr => ⟨h, hr⟩
 | x :: xs, es, k, ys, h, hr => by
  obtain ⟨hl, h⟩ := h
  match ys, hl with
  | y :: ys, hl =>
   obtain ⟨a1, a2⟩ := zato (h 0 _ y rfl rfl) hr
   obtain ⟨⟨b0, b1⟩, b2⟩ := zacb (xs := xs) (ys := ys) ⟨by simpa using hl, fun i x' y' h1 h2 => h (i + 1) x' y' (by simpa using h1) (by simpa using h2)⟩ a2
   refine ⟨⟨by simpa [z3t] using b0, fun i x' y' h1 h2 => ?_⟩, b2⟩
   cases i with
   | zero => simp only [z3t, qu, kk, qc] at h1 h2; subst h1; subst h2; exact a1
   | succ i => exact b1 i x' y' (by simpa [z3t] using h1) (by simpa using h2)
theorem zbei {x : TV} {es : List ETy} {k : Nat} {y : Value} (h : RV w ρ R x.raw y) (hr : Rows0 R k es) : RV w ρ R (ownV x es k).raw y := by
 cases x with
 | g x => exact (zato (x := x) h hr).1
 | cl f c => exact h
 | tp xs =>
  obtain ⟨ys, rfl, h⟩ := h
  exact ⟨ys, rfl, (zacb h hr).1⟩
theorem zae8 (es : List ETy) : ∀ {w : World} {ρ : Rho} {R : Tab}, Mem w ρ R → ∃ ρ', Step w ρ R w ρ' (R ++ (es.map row0).map TEnt.raw) := by
 induction es with
 | nil => intro w ρ R hm; simp only [List.map_nil, kq]; exact ⟨ρ, Step.refl hm⟩
 | cons e es ih =>
  intro w ρ R hm
  have s0 := Step.fresh hm 1
  have s1 := Step.make0 (r := R.length) (rt := ⟨0, sz e, true, []⟩) s0.mem (by simp) rfl
  have e1 : (R ++ List.replicate 1 Ent.fresh).set R.length (.live ⟨0, sz e, true, []⟩) = R ++ [(row0 e).raw] := by simp [row0, TEnt.raw, TRoot.raw]
  rw [e1] at s1
  obtain ⟨ρ', s2⟩ := ih s1.mem
  refine ⟨ρ', s0.trans (s1.trans ?_)⟩
  simpa using s2
theorem zbjt {P : Program} {f : FuncId} {args : List V} {R : Tab} {a : TV × TTab} {es : List ETy} (hp : es.all (fun e => decide (0 < sz e)) = true) (h : zve P f args R a.1.raw (zaf a.2)) : zve P f args R (ownT es a).1.raw (zaf (ownT es a).2) := by
 obtain ⟨h1, h2⟩ := h
 refine ⟨h1, fun w ρ vs hm hal hargs => ?_⟩
 refine Calls.mono (h2 w ρ vs hm hal hargs) fun e' w' h => ?_
 obtain ⟨x, ρ', rfl, st, hv⟩ := h
 obtain ⟨ρ2, s2⟩ := zae8 es st.mem
 have e1 : zaf (ownT es a).2 = zaf a.2 ++ (es.map row0).map TEnt.raw := by simp [ownT, zaf]
 rw [e1]
 refine ⟨x, ρ2, rfl, st.trans s2, zbei (zj2 s2.ext hv) ?_⟩
 intro i e hi
 refine ⟨?_, ?_⟩
 ·rw [kl (by simp [zaf])]
  simp [zaf, hi]
 ·have := qt.1 hp e (qp hi)
  simpa using this
theorem FOK.own {P : Program} {f : FuncId} {s : FSh} {l l' : List FO} {F : s.den → Option (FOs.den l)} (h : FOK P f s l F) (m : FOs.den l → FOs.den l') (es : List ETy) (hp : es.all (fun e => decide (0 < sz e)) = true)
  (hm : ∀ o, FOs.emb l' (m o) = FOs.emb l o ∨ FOs.emb l' (m o) = ownT es (FOs.emb l o)) : FOK P f s l' (fun v => (F v).map m) := by
 intro v o ho
 obtain ⟨o', ho', rfl⟩ := qf.1 ho
 rcases hm o' with e | e
 ·rw [e]; exact h v o' ho'
 ·rw [e]; exact zbjt hp (h v o' ho')
theorem Step.shrink {w : World} {ρ : Rho} {R : Tab} (hm : Mem w ρ R) {r : Nat} {rt : Root} (hr : R[r]? = some (.live rt)) (k : Nat) : Step w ρ R w ρ (R.set r (.live { rt with cells := rt.cells.take k })) := by
 have hown : ∀ b, Own ρ (R.set r (.live { rt with cells := rt.cells.take k })) b → Own ρ R b := by
  rintro b ⟨r', rt', o, h', hρ⟩
  by_cases e : r = r'
  ·subst e; exact ⟨r, rt, o, hr, hρ⟩
  ·rw [zaj e] at h'; exact ⟨r', rt', o, h', hρ⟩
 have hext : Ext w ρ R w ρ (R.set r (.live { rt with cells := rt.cells.take k })) := by
  refine ⟨fun b hb => ⟨⟨hb.1, fun h => hb.2 (hown b h)⟩, rfl⟩, fun _ => Iff.rfl, fun r' e he hf => ?_⟩
  by_cases e' : r = r'
  ·subst e'
   rw [hr] at he
   cases he
   refine ⟨_, za0 hr, (fun h => by cases h), fun rt' h => ?_⟩
   cases h
   exact ⟨rt, rfl, qi _, fun _ => ⟨rfl, rfl, rfl, by simp [kp]; omega, fun _ _ _ => qi _⟩⟩
  ·exact ⟨e, by rw [zaj e']; exact he, hf, fun rt' h => ⟨rt', h, qi _, fun _ => ⟨rfl, rfl, rfl, qi _, fun _ _ _ => qi _⟩⟩⟩
 refine ⟨hext, ⟨fun r' rt' h' => ?_, fun r1 r2 rt1 rt2 b o o' h1 h2 => ?_, fun b h => hm.apart b (hown b h), hm.outlt, hm.globE hext⟩, rfl, rfl, qi _, fun b h => .inl (hown b h)⟩
 ·by_cases e : r = r'
  ·subst e
   rw [za0 hr] at h'
   cases h'
   obtain ⟨h1, h2⟩ := zba hext rfl (fun _ _ _ => rfl) (hm.roots r rt hr)
   refine ⟨?_, fun hrow x hx => h2 hrow x (List.mem_of_mem_take hx)⟩
   cases hg : ρ r with
   | none =>
    rw [hg] at h1
    have h1 : rt.cells = [] := h1
    show rt.cells.take k = []
    rw [h1]; exact List.take_nil
   | some bo =>
    obtain ⟨b, o⟩ := bo
    rw [hg] at h1
    obtain ⟨c, T, fr, a1, a2, a3, a4⟩ := h1
    refine ⟨c, T, fr, a1, a2, ?_, fun i x hx => ?_⟩
    ·show o + (rt.cells.take k).length ≤ c.size
     rw [kp]; omega
    ·have hx : (rt.cells.take k)[i]? = some x := hx
     rw [List.getElem?_take] at hx
     split at hx
     ·exact a4 i x hx
     ·cases hx
  ·rw [zaj e] at h'; exact zba hext rfl (fun _ _ _ => rfl) (hm.roots r' rt' h')
 ·have live : ∀ {r0 : Nat} {rt0 : Root}, (R.set r (.live { rt with cells := rt.cells.take k }))[r0]? = some (.live rt0) → ∃ rt1, R[r0]? = some (.live rt1) := by
   intro r0 rt0 h
   by_cases e : r = r0
   ·subst e; exact ⟨rt, hr⟩
   ·rw [zaj e] at h; exact ⟨rt0, h⟩
  obtain ⟨q1, g1⟩ := live h1
  obtain ⟨q2, g2⟩ := live h2
  exact hm.dist r1 r2 q1 q2 b o o' g1 g2
def zauw (p : TV × TTab) : T (TV × TTab) :=
 match p.1 with
 | .g (.b (.rf r g off len)) => match p.2[r]? with
  | some (.live (.row g' e xs)) => .test (decide (off = 0 ∧ len ≤ xs.length)) (.ret (.g (.b (.rf r g 0 (xs.take len).length)), p.2.set r (.live (.row g' e (xs.take len))))) .fail
  | _ => .fail
 | _ => .fail
theorem za17 {P : Program} {f : FuncId} {args : List V} {R : Tab} {a b : TV × TTab} (hb : (zauw a).run = some b) (h : zve P f args R a.1.raw (zaf a.2)) : zve P f args R b.1.raw (zaf b.2) := by
 obtain ⟨v, tab⟩ := a
 unfold zauw at hb
 split at hb
 ·rename_i r g off len hv
  simp only at hv
  subst hv
  split at hb
  ·rename_i g' e xs hr
   simp only [T.run] at hb
   split at hb
   ·rename_i hc
    obtain ⟨rfl, hle⟩ := ku hc
    cases hb
    obtain ⟨h1, h2⟩ := h
    refine ⟨h1, fun w ρ vs hm hal hargs => ?_⟩
    refine Calls.mono (h2 w ρ vs hm hal hargs) fun e' w' h => ?_
    obtain ⟨x, ρ', rfl, st, hv⟩ := h
    have hraw : (zaf tab)[r]? = some (.live ⟨g', sz e, true, xs.flatMap (encB e)⟩) := by
     unfold zaf; rw [qn, hr]; rfl
    have s2 := Step.shrink st.mem hraw (len * sz e)
    have e1 : zaf (tab.set r (.live (.row g' e (xs.take len)))) = (zaf tab).set r (.live ⟨g', sz e, true, (xs.flatMap (encB e)).take (len * sz e)⟩) := by
     unfold zaf
     rw [List.map_set]
     congr 1
     show Ent.live ⟨g', sz e, true, (xs.take len).flatMap (encB e)⟩ = _
     rw [zit (zam e)]
    have e2 : (xs.take len).length = len := by rw [kp]; omega
    refine ⟨x, ρ', rfl, ?_, ?_⟩
    ·show Step w ρ R w' ρ' (zaf (tab.set r (.live (.row g' e (xs.take len)))))
     rw [e1]; exact st.trans s2
    ·show RV w' ρ' (zaf (tab.set r (.live (.row g' e (xs.take len))))) (.g (.b (.rf r g 0 (xs.take len).length))) x
     rw [e1, e2]
     exact zj2 (x := .g (.b (.rf r g 0 len))) s2.ext hv
   ·cases hb
  ·cases hb
 ·cases hb
theorem FOK.trunc {P : Program} {f : FuncId} {s : FSh} {l l' : List FO} {F : s.den → Option (FOs.den l)} (h : FOK P f s l F) (m : FOs.den l → T (FOs.den l'))
  (hm : ∀ o, (m o).map (FOs.emb l') = zauw (FOs.emb l o)) : FOK P f s l' (fun v => (F v).bind fun o => (m o).run) := by
 intro v o ho
 obtain ⟨o', ho', h2⟩ := qx.1 ho
 refine za17 (a := FOs.emb l o') ?_ (h v o' ho')
 rw [← hm o']
 unfold T.map
 rw [T.run_bind, h2]
 rfl
end Go.Gm
