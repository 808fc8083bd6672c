import Derived.Test.YtppalpflejcjeaaGreatQGt15
namespace Go.Gm
open Go
set_option linter.unusedVariables false
set_option linter.unusedSimpArgs false
section
variable {w : World} {ρ ρ2 : Rho} {R R2 : TTab} {φ : Nat → Nat → Option (Nat × Nat)}
structure MapOK (φ : Nat → Nat → Option (Nat × Nat)) (ρ : Rho) (R : TTab) (ρ2 : Rho) (R2 : TTab) : Prop where
 own : ∀ b, Own ρ2 (rawTab R2) b → Own ρ (rawTab R) b
 out : ∀ b, ρ2.out b ↔ ρ.out b
 ref : ∀ r g r' g', φ r g = some (r', g') → ∀ e, (rawTab R)[r]? = some e → e ≠ .fresh → ∃ e', (rawTab R2)[r']? = some e' ∧ e' ≠ .fresh ∧ ∀ rt', e' = .live rt' →
  ∃ rt, e = .live rt ∧ (g ≤ rt.g → g' ≤ rt'.g) ∧ (rt'.g = g' → rt.g = g ∧ rt'.es = rt.es ∧ rt'.row = rt.row ∧ rt'.cells.length = rt.cells.length ∧ ρ2 r' = ρ r)
theorem MapOK.rf (h : MapOK φ ρ R ρ2 R2) {r g r' g' : Nat} (hφ : φ r g = some (r', g')) {Q : Gh → Root → Prop} (hQ : ∀ gh rt rt', rt'.es = rt.es → rt'.row = rt.row → rt'.cells.length = rt.cells.length → Q gh rt → Q gh rt')
  (hh : ∃ e, (rawTab R)[r]? = some e ∧ e ≠ .fresh ∧ ∀ rt, e = .live rt → g ≤ rt.g ∧ (rt.g = g → Q (ρ r) rt)) :
  ∃ e, (rawTab R2)[r']? = some e ∧ e ≠ .fresh ∧ ∀ rt, e = .live rt → g' ≤ rt.g ∧ (rt.g = g' → Q (ρ2 r') rt) := by
 obtain ⟨e, he, hf, hl⟩ := hh
 obtain ⟨e', he', hf', hl'⟩ := h.ref r g r' g' hφ e he hf
 refine ⟨e', he', hf', fun rt' hrt' => ?_⟩
 obtain ⟨rt, hrt, h1, h2⟩ := hl' rt' hrt'
 obtain ⟨k1, k2⟩ := hl rt hrt
 refine ⟨h1 k1, fun hg => ?_⟩
 obtain ⟨a, b, c, d, e⟩ := h2 hg
 rw [e]
 exact hQ _ _ _ b c d (k2 a)
theorem MapOK.stab (h : MapOK φ ρ R ρ2 R2) (lo : Bool) (b : Nat) (hs : StableL lo w ρ (rawTab R) b) : StableL lo w ρ2 (rawTab R2) b :=
 ⟨⟨hs.1.1, fun ho => hs.1.2 (h.own b ho)⟩, fun hl ho => hs.2 hl ((h.out b).1 ho)⟩
theorem MapOK.rb (h : MapOK φ ρ R ρ2 R2) : ∀ (x : TB) {y : Value}, RB w ρ (rawTab R) x.raw y → RB w ρ2 (rawTab R2) (x.mapR φ).raw y := by
 have pt : ∀ {p q : Nat × Nat × Nat} {y : Value}, (φ p.1 p.2.1).map (fun q => (q.1, q.2, p.2.2)) = some q → RP w ρ (rawTab R) p y → RP w ρ2 (rawTab R2) q y := by
  rintro ⟨r, g, fo⟩ q y hq ⟨hsh, hh⟩
  obtain ⟨⟨r', g'⟩, hb, rfl⟩ := Option.map_eq_some_iff.1 hq
  exact ⟨hsh, h.rf (Q := fun gh _ => ∃ b o, gh = some (b, o) ∧ y = .pointer (some ⟨b, o + fo, none⟩)) hb (fun _ _ _ _ _ _ h => h) hh⟩
 have rfq : ∀ {rt rt' : Root} {gh : Gh} {off len : Nat} {y : Value}, rt'.es = rt.es → rt'.row = rt.row → rt'.cells.length = rt.cells.length → RfOK w gh rt off len y → RfOK w gh rt' off len y := by
  rintro rt rt' gh off len y e1 e2 e3 ⟨a, cap, h1, h2, h3, h4, h5, h6⟩
  exact ⟨a, cap, h1, h2, by rw [e1]; exact h3, by rw [e2]; exact h4, by rw [e1, e3]; exact h5, by rw [e1]; exact h6⟩
 intro x y hx
 cases x with
 | rf r g off len =>
  obtain ⟨hsh, hh⟩ := hx
  simp only [TB.mapR]
  cases hb : φ r g with
  | none => trivial
  | some q => exact ⟨hsh, h.rf (Q := fun gh rt => RfOK w gh rt off len y) hb (fun _ _ _ e1 e2 e3 h => rfq e1 e2 e3 h) hh⟩
 | pe r g e i fo =>
  simp only [TB.mapR]
  cases hb : φ r g with
  | none => trivial
  | some q => exact pt (p := (r, g, i * sz e + fo)) (q := (q.1, q.2, i * sz e + fo)) (by simp [hb]) hx
 | pf r g fo =>
  simp only [TB.mapR]
  cases hb : φ r g with
  | none => trivial
  | some q => exact pt (p := (r, g, fo)) (q := (q.1, q.2, fo)) (by simp [hb]) hx
 | clo f ps =>
  obtain ⟨ys, e, hl, hy⟩ := hx
  simp only [TB.mapR]
  cases hq : optAll (fun p : Nat × Nat × Nat => (φ p.1 p.2.1).map fun q => (q.1, q.2, p.2.2)) ps with
  | none => trivial
  | some qs =>
   obtain ⟨h1, h2⟩ := optAll_get hq
   exact ⟨ys, e, h1.trans hl, fun i q z hz hzy => by
    obtain ⟨p, hp, hpq⟩ := h2 i q hz
    exact pt hpq (hy i p z hp hzy)⟩
 | ro e xs ex lo =>
  obtain ⟨a, cap, e1, hn, hex, hc⟩ := hx
  exact ⟨a, cap, e1, hn, hex, hc.imp id fun ⟨ad, ha, hs, hr⟩ => ⟨ad, ha, h.stab _ _ hs, ReadC_ext (fun l b hb => ⟨h.stab _ _ hb, rfl⟩) rfl hr⟩⟩
 | pr e xs i fo lo =>
  obtain ⟨ad, e1, hs, hr⟩ := hx
  exact ⟨ad, e1, h.stab _ _ hs, ReadC_ext (fun l b hb => ⟨h.stab _ _ hb, rfl⟩) rfl hr⟩
 | _ => exact hx
theorem MapOK.rg (h : MapOK φ ρ R ρ2 R2) (x : TG) {y : Value} (hx : RG w ρ (rawTab R) x.raw y) : RG w ρ2 (rawTab R2) (x.mapR φ).raw y := by
 cases x with
 | b x => exact h.rb x hx
 | ag xs =>
  obtain ⟨ys, rfl, hl, hr⟩ := hx
  refine ⟨ys, rfl, by simpa using hl, fun i x z hx hz => ?_⟩
  simp only [List.getElem?_map] at hx
  obtain ⟨x1, hx1, rfl⟩ := Option.map_eq_some_iff.1 hx
  obtain ⟨x0, hx0, rfl⟩ := Option.map_eq_some_iff.1 hx1
  exact h.rb x0 (hr i _ z (by rw [List.getElem?_map, hx0]; rfl) hz)
theorem MapOK.rgs (h : MapOK φ ρ R ρ2 R2) {xs : List TG} {ys : List Value} (hx : RGs w ρ (rawTab R) (xs.map TG.raw) ys) : RGs w ρ2 (rawTab R2) ((xs.map (TG.mapR φ)).map TG.raw) ys := by
 obtain ⟨hl, hr⟩ := hx
 refine ⟨by simpa using hl, fun i x z hx hz => ?_⟩
 simp only [List.getElem?_map] at hx
 obtain ⟨x1, hx1, rfl⟩ := Option.map_eq_some_iff.1 hx
 obtain ⟨x0, hx0, rfl⟩ := Option.map_eq_some_iff.1 hx1
 exact h.rg x0 (hr i _ z (by rw [List.getElem?_map, hx0]; rfl) hz)
theorem MapOK.rv (h : MapOK φ ρ R ρ2 R2) (x : TV) {y : Value} (hx : RV w ρ (rawTab R) x.raw y) : RV w ρ2 (rawTab R2) (x.mapR φ).raw y := by
 cases x with
 | g x => exact h.rg x hx
 | cl f caps => obtain ⟨ys, e, hs⟩ := hx; exact ⟨ys, e, h.rgs hs⟩
 | tp xs => obtain ⟨ys, e, hs⟩ := hx; exact ⟨ys, e, h.rgs hs⟩
theorem MapOK.cells (h : MapOK φ ρ R ρ2 R2) (rt : TRoot) (g : Nat) (i : Nat) (x : B) (hx : (rt.mapR φ g).raw.cells[i]? = some x) :
  ∃ x0, rt.raw.cells[i]? = some x0 ∧ ∀ y, RB w ρ (rawTab R) x0 y → RB w ρ2 (rawTab R2) x y := by
 cases rt with
 | row g0 e xs =>
  simp only [TRoot.raw, TRoot.mapR] at hx ⊢
  refine ⟨x, hx, fun y hy => ?_⟩
  have hc := List.all_eq_true.1 (flatB_closed (e := e) (xs := xs)).1 x (List.mem_of_getElem? hx)
  cases x with
  | v z => exact hy
  | ro n cs ex lo =>
   obtain ⟨a, cap, e1, hn, hex, hc⟩ := hy
   exact ⟨a, cap, e1, hn, hex, hc.imp id fun ⟨ad, ha, hs, hr⟩ => ⟨ad, ha, h.stab _ _ hs, ReadC_ext (fun l b hb => ⟨h.stab _ _ hb, rfl⟩) rfl hr⟩⟩
  | _ => cases hc
 | rcd g0 cs =>
  simp only [TRoot.raw, TRoot.mapR, List.getElem?_map] at hx ⊢
  obtain ⟨x1, hx1, rfl⟩ := Option.map_eq_some_iff.1 hx
  obtain ⟨x0, hx0, rfl⟩ := Option.map_eq_some_iff.1 hx1
  exact ⟨x0.raw, by rw [hx0]; rfl, fun y hy => h.rb x0 hy⟩
theorem MapOK.root (h : MapOK φ ρ R ρ2 R2) {rt : TRoot} {r r2 g : Nat} (hr : RootOK w ρ (rawTab R) r rt.raw) (he : ρ2 r2 = ρ r) : RootOK w ρ2 (rawTab R2) r2 (rt.mapR φ g).raw := by
 obtain ⟨m1, m2, m3, m4⟩ := mapR_cells (φ := φ) (g := g) rt
 obtain ⟨k1, k2⟩ := hr
 refine ⟨?_, fun hrow x hx => ?_⟩
 ·rw [he]
  cases hg : ρ r with
  | none =>
   rw [hg] at k1
   simp only at k1 ⊢
   exact List.eq_nil_of_length_eq_zero (by rw [m4, k1]; rfl)
  | some bo =>
   obtain ⟨b, o⟩ := bo
   rw [hg] at k1
   simp only at k1 ⊢
   obtain ⟨c, T, fr, a1, a2, a3, a4⟩ := k1
   refine ⟨c, T, fr, a1, a2, by rw [m4]; exact a3, fun i x hx => ?_⟩
   obtain ⟨x0, hx0, hrel⟩ := h.cells (w := w) rt g i x hx
   obtain ⟨y, hy, hrb⟩ := a4 i x0 hx0
   exact ⟨y, hy, hrel y hrb⟩
 ·cases rt with
  | row g0 e xs => exact k2 rfl x hx
  | rcd g0 cs => cases hrow
end
def takeE (φ : Nat → Nat → Option (Nat × Nat)) : TEnt → TEnt
 | .live rt => .live (rt.mapR φ rt.g)
 | x => x
def takeP (p q gp gq : Nat) (r g : Nat) : Option (Nat × Nat) := if r = p then none else if r = q then (if g = gq then some (p, gp + 1) else none) else some (r, g)
def takeT (m p : Nat) (a : TV × TTab) : Option (TV × TTab) :=
 match a.2[p]?, a.2[a.2.length - 1]? with
 | some (.live rp), some (.live rq) => if p < m ∧ m ≤ a.2.length - 1 then
   some (a.1.mapR (takeP p (a.2.length - 1) rp.g rq.g), ((a.2.take (a.2.length - 1)).map (takeE (takeP p (a.2.length - 1) rp.g rq.g))).set p (.live (rq.mapR (takeP p (a.2.length - 1) rp.g rq.g) (rp.g + 1)))) else none
 | _, _ => none
theorem take_step {w w' : World} {ρ ρ' : Rho} {R : Tab} {v : TV} {tab : TTab} {p : Nat} {b : TV × TTab} (hb : takeT R.length p (v, tab) = some b) (st : Step w ρ R w' ρ' (rawTab tab)) {x : Value} (hv : RV w' ρ' (rawTab tab) v.raw x) :
  ∃ ρ2, Step w ρ R w' ρ2 (rawTab b.2) ∧ RV w' ρ2 (rawTab b.2) b.1.raw x := by
 unfold takeT at hb
 simp only at hb
 generalize hq : tab.length - 1 = q at hb
 split at hb
 case h_2 => cases hb
 rename_i rp rq h1 h2
 split at hb
 case isFalse => cases hb
 rename_i hm
 cases hb
 generalize hφ : takeP p q rp.g rq.g = φ
 have hql : q < tab.length := (List.getElem?_eq_some_iff.1 h2).1
 have hpq : p < q := by omega
 simp only
 generalize ht : ((tab.take q).map (takeE φ)).set p (.live (rq.mapR φ (rp.g + 1))) = tab2
 have getp : (rawTab tab2)[p]? = some (.live (rq.mapR φ (rp.g + 1)).raw) := by
  subst ht
  simp only [rawTab, List.getElem?_map]
  rw [List.getElem?_set_self (by rw [List.length_map, List.length_take]; omega)]
  rfl
 have geto : ∀ r, r ≠ p → r < q → (rawTab tab2)[r]? = (tab[r]?).map fun e => (takeE φ e).raw := by
  intro r hr hrq
  subst ht
  simp only [rawTab, List.getElem?_map]
  rw [List.getElem?_set_ne (Ne.symm hr), List.getElem?_map, List.getElem?_take_of_lt hrq, Option.map_map]
  rfl
 have lt2 : ∀ {r : Nat} {e : Ent}, (rawTab tab2)[r]? = some e → r < q := by
  intro r e h
  have := (List.getElem?_eq_some_iff.1 h).1
  subst ht
  simp only [rawTab, List.length_map, List.length_set, List.length_take] at this
  omega
 have rawp : (rawTab tab)[p]? = some (.live rp.raw) := by simp only [rawTab, List.getElem?_map, h1]; rfl
 have rawq : (rawTab tab)[q]? = some (.live rq.raw) := by simp only [rawTab, List.getElem?_map, h2]; rfl
 let ρ2 : Rho := upd ρ' p (ρ' q)
 have ρp : ρ2 p = ρ' q := upd_self _ _ _
 have ρo : ∀ r, r ≠ p → ρ2 r = ρ' r := fun r hr => upd_other hr
 have back : ∀ {r : Nat} {rt : Root}, (rawTab tab2)[r]? = some (.live rt) → ∃ (s : Nat) (rs : TRoot) (g : Nat), (rawTab tab)[s]? = some (.live rs.raw) ∧ rt = (rs.mapR φ g).raw ∧ ρ2 r = ρ' s ∧ (r = p ∧ s = q ∨ r ≠ p ∧ r < q ∧ s = r) := by
  intro r rt h
  by_cases e : r = p
  ·subst e
   rw [getp] at h
   cases h
   exact ⟨q, rq, _, rawq, rfl, ρp, .inl ⟨rfl, rfl⟩⟩
  ·have hl := lt2 h
   rw [geto r e hl] at h
   obtain ⟨te, hte, h3⟩ := Option.map_eq_some_iff.1 h
   cases te with
   | live rs =>
    simp only [takeE, TEnt.raw] at h3
    cases h3
    exact ⟨r, rs, rs.g, by simp only [rawTab, List.getElem?_map, hte]; rfl, rfl, ρo r e, .inr ⟨e, hl, rfl⟩⟩
   | _ => cases h3
 have mo : MapOK φ ρ' tab ρ2 tab2 := by
  refine ⟨?_, fun _ => Iff.rfl, ?_⟩
  ·rintro b ⟨r, rt, o, hr, hρ⟩
   obtain ⟨s, rs, g, h3, _, h4, _⟩ := back hr
   exact ⟨s, rs.raw, o, h3, by rw [← h4]; exact hρ⟩
  ·intro r g r' g' hφ2 e he hf
   subst hφ
   unfold takeP at hφ2
   split at hφ2
   ·cases hφ2
   rename_i hrp
   split at hφ2
   ·rename_i hrq
    split at hφ2
    ·rename_i hg
     cases hφ2
     subst hrq
     rw [rawq] at he
     cases he
     refine ⟨_, getp, (fun h => by cases h), fun rt' hrt' => ?_⟩
     cases hrt'
     obtain ⟨m1, m2, m3, m4⟩ := mapR_cells (φ := takeP p r rp.g rq.g) (g := rp.g + 1) rq
     exact ⟨_, rfl, fun _ => by rw [m1]; exact Nat.le_refl _, fun _ => ⟨by rw [g_raw]; exact hg.symm, m2, m3, m4, ρp⟩⟩
    ·cases hφ2
   ·rename_i hrq
    cases hφ2
    have he0 := he
    simp only [rawTab, List.getElem?_map] at he0
    obtain ⟨te, hte, rfl⟩ := Option.map_eq_some_iff.1 he0
    have hl : r < q := by have := (List.getElem?_eq_some_iff.1 hte).1; omega
    refine ⟨_, by rw [geto r hrp hl, hte]; rfl, ?_, fun rt' hrt' => ?_⟩
    ·cases te <;> simp_all [takeE, TEnt.raw]
    ·cases te with
     | live rs =>
      simp only [takeE, TEnt.raw] at hrt'
      cases hrt'
      obtain ⟨m1, m2, m3, m4⟩ := mapR_cells (φ := takeP p q rp.g rq.g) (g := rs.g) rs
      exact ⟨_, rfl, fun h => by rw [m1, ← g_raw]; exact h, fun h => ⟨by rw [m1] at h; rw [g_raw]; exact h, m2, m3, m4, ρo r hrp⟩⟩
     | _ => cases hrt'
 refine ⟨ρ2, ⟨?_, ?_, st.os, st.output, st.size, fun b hb => st.own b (mo.own b hb)⟩, mo.rv v hv⟩
 ·refine ⟨fun b hb => ?_, st.ext.out, fun r e he hf => ?_⟩
  ·obtain ⟨g1, g2⟩ := st.ext.stab b hb
   exact ⟨⟨g1.1, fun ho => g1.2 (mo.own b ho)⟩, g2⟩
  ·obtain ⟨e', he', hf', hl'⟩ := st.ext.ent r e he hf
   by_cases hr : r = p
   ·subst hr
    rw [rawp] at he'
    cases he'
    obtain ⟨rt, e1, e2, _⟩ := hl' _ rfl
    refine ⟨_, getp, (fun h => by cases h), fun rt' hrt' => ?_⟩
    cases hrt'
    obtain ⟨m1, _⟩ := mapR_cells (φ := φ) (g := rp.g + 1) rq
    rw [g_raw] at e2
    exact ⟨rt, e1, by rw [m1]; omega, fun h => by rw [m1] at h; omega⟩
   ·have hl : r < q := by have := (List.getElem?_eq_some_iff.1 he).1; omega
    simp only [rawTab, List.getElem?_map] at he'
    obtain ⟨te, hte, rfl⟩ := Option.map_eq_some_iff.1 he'
    refine ⟨_, by rw [geto r hr hl, hte]; rfl, ?_, fun rt' hrt' => ?_⟩
    ·cases te <;> simp_all [takeE, TEnt.raw]
    ·cases te with
     | live rs =>
      simp only [takeE, TEnt.raw] at hrt'
      cases hrt'
      obtain ⟨m1, m2, m3, m4⟩ := mapR_cells (φ := φ) (g := rs.g) rs
      obtain ⟨rt, e1, e2, e3⟩ := hl' _ rfl
      rw [g_raw] at e2 e3
      refine ⟨rt, e1, by rw [m1]; exact e2, fun h => ?_⟩
      rw [m1] at h
      obtain ⟨k1, k2, k3, k4, k5⟩ := e3 h
      exact ⟨m2.trans k1, m3.trans k2, (ρo r hr).trans k3, by rw [m4]; exact k4, k5⟩
     | _ => cases hrt'
 ·have hM := st.mem
  refine ⟨fun r rt hr => ?_, fun r1 r2 rt1 rt2 b o o' g1 g2 k1 k2 => ?_, fun b hb => hM.apart b (mo.own b hb), hM.outlt, hM.glob.1, fun b hb => ⟨(hM.glob.2 b hb).1, fun ho => (hM.glob.2 b hb).2 (mo.own b ho)⟩⟩
  ·obtain ⟨s, rs, g, a1, rfl, a3, _⟩ := back hr
   exact mo.root (hM.roots s rs.raw a1) a3
  ·obtain ⟨s1, rs1, _, a1, _, a3, a4⟩ := back g1
   obtain ⟨s2, rs2, _, b1, _, b3, b4⟩ := back g2
   have := hM.dist s1 s2 rs1.raw rs2.raw b o o' a1 b1 (by rw [← a3]; exact k1) (by rw [← b3]; exact k2)
   rcases a4 with ⟨c1, c2⟩ | ⟨c1, c2, c3⟩ <;> rcases b4 with ⟨d1, d2⟩ | ⟨d1, d2, d3⟩ <;> omega
theorem take_ok {P : Program} {f : FuncId} {args : List V} {R : Tab} {a b : TV × TTab} {p : Nat} (hb : takeT R.length p a = some b) (h : CallOK P f args R a.1.raw (rawTab a.2)) : CallOK P f args R b.1.raw (rawTab b.2) := by
 obtain ⟨h1, h2⟩ := h
 refine ⟨h1, fun w ρ vs hm hal hargs => ?_⟩
 refine Calls.mono (h2 w ρ vs hm hal hargs) fun e' w' h => ?_
 obtain ⟨x, ρ', rfl, st, hv⟩ := h
 obtain ⟨ρ2, s2, hv2⟩ := take_step (v := a.1) (tab := a.2) hb st hv
 exact ⟨x, ρ2, rfl, s2, hv2⟩
theorem bump_step {bs : List Nat} {R : TTab} {w : World} {ρ : Rho} (hm : Mem w ρ (rawTab R)) : Step w ρ (rawTab R) w ρ (rawTab (R.mapIdx (bumpE bs R))) := by
 refine Step.weak3 ⟨by simp [rawTab], fun r e e' he he' => ?_⟩ hm
 rw [bump_get] at he'
 simp only [rawTab, List.getElem?_map] at he
 obtain ⟨te, hte, rfl⟩ := Option.map_eq_some_iff.1 he
 rw [hte] at he'
 cases he'
 cases te with
 | live rt =>
  obtain ⟨m1, m2, m3, m4⟩ := mapR_cells (φ := bumpP bs R) (g := if bs.contains r then max rt.g 1 else rt.g) rt
  refine .inr ⟨_, _, rfl, rfl, ?_, m2, m3, fun hrow => ?_, ?_⟩
  ·rw [m1, g_raw]; split <;> omega
  ·cases rt with
   | row g e xs => rfl
   | rcd g cs => cases hrow
  ·cases rt with
   | row g e xs =>
    refine ⟨rfl, fun i x x' hx hx' y hy => ?_⟩
    simp only [TRoot.raw, TRoot.mapR] at hx hx'
    rw [hx] at hx'
    cases hx'
    have hc := List.all_eq_true.1 (flatB_closed (e := e) (xs := xs)).1 x (List.mem_of_getElem? hx)
    cases x with
    | v z => exact hy
    | ro n cs ex lo =>
     obtain ⟨a, cap, e1, hn, hex, hc⟩ := hy
     exact ⟨a, cap, e1, hn, hex, hc.imp id fun ⟨ad, ha, hs, hr⟩ => ⟨ad, ha, ⟨⟨hs.1.1, fun ho => hs.1.2 (bump_own ho)⟩, hs.2⟩, ReadC_ext (fun l b hb => ⟨⟨⟨hb.1.1, fun ho => hb.1.2 (bump_own ho)⟩, hb.2⟩, rfl⟩) rfl hr⟩⟩
    | _ => cases hc
   | rcd g cs =>
    refine ⟨by simp [TRoot.raw, TRoot.mapR], fun i x x' hx hx' y hy => ?_⟩
    simp only [TRoot.raw, TRoot.mapR, List.getElem?_map] at hx hx'
    obtain ⟨x0, hx0, rfl⟩ := Option.map_eq_some_iff.1 hx
    rw [hx0] at hx'
    cases hx'
    exact bumpRB x0 hy
 | _ => exact .inl ⟨rfl, fun rt h => by cases h⟩
def bumpA (bs : List Nat) (a : TV × TTab) : TV × TTab := (a.1.mapR (bumpP bs a.2), a.2.mapIdx (bumpE bs a.2))
theorem bumpA_ok {P : Program} {f : FuncId} {args : List V} {R : Tab} {a : TV × TTab} {bs : List Nat} (h : CallOK P f args R a.1.raw (rawTab a.2)) : CallOK P f args R (bumpA bs a).1.raw (rawTab (bumpA bs a).2) := by
 obtain ⟨h1, h2⟩ := h
 refine ⟨h1, fun w ρ vs hm hal hargs => ?_⟩
 refine Calls.mono (h2 w ρ vs hm hal hargs) fun e' w' h => ?_
 obtain ⟨x, ρ', rfl, st, hv⟩ := h
 exact ⟨x, ρ', rfl, st.trans (bump_step st.mem), bumpRV a.1 hv⟩
theorem FOK.take {P : Program} {f : FuncId} {s : FSh} {l l' : List FO} {F : s.den → Option (FOs.den l)} (h : FOK P f s l F) (p : Nat) (m : FOs.den l → FOs.den l')
  (hm : ∀ o, FOs.emb l' (m o) = bumpA [p] (FOs.emb l o) ∨ takeT s.r.length p (FOs.emb l o) = some (FOs.emb l' (m o))) : FOK P f s l' (fun v => (F v).map m) := by
 intro v o ho
 obtain ⟨o', ho', rfl⟩ := Option.map_eq_some_iff.1 ho
 rcases hm o' with e | e
 ·rw [e]; exact bumpA_ok (h v o' ho')
 ·refine take_ok (p := p) (a := FOs.emb l o') ?_ (h v o' ho')
  rw [← e]
  congr 1
  show (rawTab (encR s.r (PD.snd s.r v))).length = s.r.length
  unfold rawTab encR
  rw [List.length_map, encTup_len]
end Go.Gm
