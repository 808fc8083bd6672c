import Derived.Test.YtppalpflejcjeaaGreatQGt14
namespace Go.Gm
open Go
set_option linter.unusedVariables false
def ownB : TB → List ETy → Nat → TB × List ETy × Nat
 | .ro e xs ex lo, es, k => match xs, ex, es with
  | [], true, _ :: es => (.rf k 0 0 0, es, k + 1)
  | xs, ex, es => (.ro e xs ex lo, es, k)
 | x, es, k => (x, es, k)
def ownBs : List TB → List ETy → Nat → List TB × List ETy × Nat
 | [], es, k => ([], es, k)
 | x :: xs, es, k => let r := ownB x es k; let s := ownBs xs r.2.1 r.2.2; (r.1 :: s.1, s.2)
def ownG : TG → List ETy → Nat → TG × List ETy × Nat
 | .b x, es, k => let r := ownB x es k; (.b r.1, r.2)
 | .ag xs, es, k => let r := ownBs xs es k; (.ag r.1, r.2)
def ownGs : List TG → List ETy → Nat → List TG × List ETy × Nat
 | [], es, k => ([], es, k)
 | x :: xs, es, k => let r := ownG x es k; let s := ownGs xs r.2.1 r.2.2; (r.1 :: s.1, s.2)
def ownV : TV → List ETy → Nat → TV
 | .g x, es, k => .g (ownG x es k).1
 | .tp xs, es, k => .tp (ownGs xs es k).1
 | x, _, _ => x
def row0 (e : ETy) : TEnt := .live (.row 0 e [])
def ownT (es : List ETy) (p : TV × TTab) : TV × TTab := (ownV p.1 es p.2.length, p.2 ++ es.map row0)
variable {w : World} {ρ : Rho} {R : Tab}
def Rows0 (R : Tab) (k : Nat) (es : List ETy) : Prop := ∀ i e, es[i]? = some e → R[k + i]? = some (row0 e).raw ∧ 0 < sz e
theorem Rows0.tail {k : Nat} {e : ETy} {es : List ETy} (h : Rows0 R k (e :: es)) : Rows0 R (k + 1) es := fun i e' hi => by
 have := h (i + 1) e' (by simpa using hi)
 rwa [show k + (i + 1) = k + 1 + i by omega] at this
theorem ownB_ok {x : TB} {es : List ETy} {k : Nat} {y : Value} (h : RB w ρ R x.raw y) (hr : Rows0 R k es) : RB w ρ R (ownB x es k).1.raw y ∧ Rows0 R (ownB x es k).2.2 (ownB x es k).2.1 := by
 cases x with
 | ro e xs ex lo =>
  cases xs with
  | cons x t => exact ⟨h, hr⟩
  | nil =>
   cases ex with
   | false => exact ⟨h, hr⟩
   | true =>
    cases es with
    | nil => exact ⟨h, hr⟩
    | cons e' es' =>
     obtain ⟨h1, h2⟩ := hr 0 e' rfl
     refine ⟨?_, hr.tail⟩
     obtain ⟨a, cap, rfl, hn, hex, _⟩ := h
     have hc : cap = 0 := hex rfl
     subst hc
     refine ⟨⟨a, 0, rfl⟩, (row0 e').raw, h1, (fun h => by cases h), fun rt hrt => ?_⟩
     cases hrt
     exact ⟨Nat.le_refl _, fun _ => ⟨a, 0, rfl, Nat.le_refl _, h2, rfl, Nat.zero_le _, .inl rfl⟩⟩
 | _ => exact ⟨h, hr⟩
theorem ownBs_ok : ∀ {xs : List TB} {es : List ETy} {k : Nat} {ys : List Value}, RBs w ρ R (xs.map TB.raw) ys → Rows0 R k es → RBs w ρ R ((ownBs xs es k).1.map TB.raw) ys ∧ Rows0 R (ownBs xs es k).2.2 (ownBs xs es k).2.1
 | [], es, k, ys, h, hr => ⟨h, hr⟩
 | x :: xs, es, k, ys, h, hr => by
  obtain ⟨hl, h⟩ := h
  match ys, hl with
  | y :: ys, hl =>
   obtain ⟨a1, a2⟩ := ownB_ok (h 0 _ y rfl rfl) hr
   obtain ⟨⟨b0, b1⟩, b2⟩ := ownBs_ok (xs := xs) (ys := ys) ⟨by simpa using hl, fun i x' y' h1 h2 => h (i + 1) x' y' (by simpa using h1) (by simpa using h2)⟩ a2
   refine ⟨⟨by simpa [ownBs] using b0, fun i x' y' h1 h2 => ?_⟩, b2⟩
   cases i with
   | zero => simp only [ownBs, List.map_cons, List.getElem?_cons_zero, Option.some.injEq] at h1 h2; subst h1; subst h2; exact a1
   | succ i => exact b1 i x' y' (by simpa [ownBs] using h1) (by simpa using h2)
theorem ownG_ok {x : TG} {es : List ETy} {k : Nat} {y : Value} (h : RG w ρ R x.raw y) (hr : Rows0 R k es) : RG w ρ R (ownG x es k).1.raw y ∧ Rows0 R (ownG x es k).2.2 (ownG x es k).2.1 := by
 cases x with
 | b x => exact ownB_ok (x := x) h hr
 | ag xs =>
  obtain ⟨ys, rfl, h⟩ := h
  obtain ⟨h1, h2⟩ := ownBs_ok h hr
  exact ⟨⟨ys, rfl, h1⟩, h2⟩
theorem ownGs_ok : ∀ {xs : List TG} {es : List ETy} {k : Nat} {ys : List Value}, RGs w ρ R (xs.map TG.raw) ys → Rows0 R k es → RGs w ρ R ((ownGs xs es k).1.map TG.raw) ys ∧ Rows0 R (ownGs xs es k).2.2 (ownGs xs es k).2.1
 | [], es, k, ys, h, hr => ⟨h, hr⟩
 | x :: xs, es, k, ys, h, hr => by
  obtain ⟨hl, h⟩ := h
  match ys, hl with
  | y :: ys, hl =>
   obtain ⟨a1, a2⟩ := ownG_ok (h 0 _ y rfl rfl) hr
   obtain ⟨⟨b0, b1⟩, b2⟩ := ownGs_ok (xs := xs) (ys := ys) ⟨by simpa using hl, fun i x' y' h1 h2 => h (i + 1) x' y' (by simpa using h1) (by simpa using h2)⟩ a2
   refine ⟨⟨by simpa [ownGs] using b0, fun i x' y' h1 h2 => ?_⟩, b2⟩
   cases i with
   | zero => simp only [ownGs, List.map_cons, List.getElem?_cons_zero, Option.some.injEq] at h1 h2; subst h1; subst h2; exact a1
   | succ i => exact b1 i x' y' (by simpa [ownGs] using h1) (by simpa using h2)
theorem ownV_ok {x : TV} {es : List ETy} {k : Nat} {y : Value} (h : RV w ρ R x.raw y) (hr : Rows0 R k es) : RV w ρ R (ownV x es k).raw y := by
 cases x with
 | g x => exact (ownG_ok (x := x) h hr).1
 | cl f c => exact h
 | tp xs =>
  obtain ⟨ys, rfl, h⟩ := h
  exact ⟨ys, rfl, (ownGs_ok h hr).1⟩
theorem rows0_step (es : List ETy) : ∀ {w : World} {ρ : Rho} {R : Tab}, Mem w ρ R → ∃ ρ', Step w ρ R w ρ' (R ++ (es.map row0).map TEnt.raw) := by
 induction es with
 | nil => intro w ρ R hm; simp only [List.map_nil, List.append_nil]; exact ⟨ρ, Step.refl hm⟩
 | cons e es ih =>
  intro w ρ R hm
  have s0 := Step.fresh hm 1
  have s1 := Step.make0 (r := R.length) (rt := ⟨0, sz e, true, []⟩) s0.mem (by simp) rfl
  have e1 : (R ++ List.replicate 1 Ent.fresh).set R.length (.live ⟨0, sz e, true, []⟩) = R ++ [(row0 e).raw] := by simp [row0, TEnt.raw, TRoot.raw]
  rw [e1] at s1
  obtain ⟨ρ', s2⟩ := ih s1.mem
  refine ⟨ρ', s0.trans (s1.trans ?_)⟩
  simpa using s2
theorem own_ok {P : Program} {f : FuncId} {args : List V} {R : Tab} {a : TV × TTab} {es : List ETy} (hp : es.all (fun e => decide (0 < sz e)) = true) (h : CallOK P f args R a.1.raw (rawTab a.2)) : CallOK P f args R (ownT es a).1.raw (rawTab (ownT es a).2) := by
 obtain ⟨h1, h2⟩ := h
 refine ⟨h1, fun w ρ vs hm hal hargs => ?_⟩
 refine Calls.mono (h2 w ρ vs hm hal hargs) fun e' w' h => ?_
 obtain ⟨x, ρ', rfl, st, hv⟩ := h
 obtain ⟨ρ2, s2⟩ := rows0_step es st.mem
 have e1 : rawTab (ownT es a).2 = rawTab a.2 ++ (es.map row0).map TEnt.raw := by simp [ownT, rawTab]
 rw [e1]
 refine ⟨x, ρ2, rfl, st.trans s2, ownV_ok (RV_ext s2.ext hv) ?_⟩
 intro i e hi
 refine ⟨?_, ?_⟩
 ·rw [List.getElem?_append_right (by simp [rawTab])]
  simp [rawTab, hi]
 ·have := List.all_eq_true.1 hp e (List.mem_of_getElem? hi)
  simpa using this
theorem FOK.own {P : Program} {f : FuncId} {s : FSh} {l l' : List FO} {F : s.den → Option (FOs.den l)} (h : FOK P f s l F) (m : FOs.den l → FOs.den l') (es : List ETy) (hp : es.all (fun e => decide (0 < sz e)) = true)
  (hm : ∀ o, FOs.emb l' (m o) = FOs.emb l o ∨ FOs.emb l' (m o) = ownT es (FOs.emb l o)) : FOK P f s l' (fun v => (F v).map m) := by
 intro v o ho
 obtain ⟨o', ho', rfl⟩ := Option.map_eq_some_iff.1 ho
 rcases hm o' with e | e
 ·rw [e]; exact h v o' ho'
 ·rw [e]; exact own_ok hp (h v o' ho')
end Go.Gm
