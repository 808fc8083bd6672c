import Derived.Test.YtpkbjabnchfgjaaGreatDoorWGm7
namespace Go.Gm
set_option linter.unusedSimpArgs false
set_option linter.unusedVariables false
set_option linter.unnecessarySimpa false
section
variable {P : Program} {w : World} {ρ : Rho} {R : Tab}
theorem zfc {t : TypeId} (h : 0 < P.cellsOf t) : (P.info? t).isSome = true := by
 unfold Program.cellsOf at h
 cases hi : P.info? t with
 | none => rw [hi] at h; exact absurd h (by simp)
 | some i => rfl
theorem zaxz {r g off : Nat} {rt : Root} {b o : Nat} (hrt : R[r]? = some (.live rt)) (hg : rt.g = g) (hρ : ρ r = some (b, o)) : RB w ρ R (.pt r g off) (.pointer (some ⟨b, o + off, none⟩)) :=
 ⟨⟨_, rfl⟩, .live rt, hrt, (fun h => by cases h), fun rt' h => by cases h; exact ⟨by omega, fun _ => ⟨b, o, hρ, rfl⟩⟩⟩
theorem ReadC.drop {S : Bool → Nat → Prop} {ad : Addr} {cs : List C} (h : ReadC w S ad cs) (k : Nat) : ReadC w S (ad.add k) (cs.drop k) := fun i c hi => by
 rw [List.getElem?_drop] at hi
 obtain ⟨x, hx, hc⟩ := h _ c hi
 exact ⟨x, by rw [zsi]; exact hx, hc⟩
theorem zz0 {o : Oper} {ev : Operand → Option V} {a : Act} {v : V} {R' : Tab} {s : TypeId} {x : Operand} {f : Nat} (hm : Mem w ρ R) (hev : EvOK w ρ R ev a) (ho : o.op = .fieldAddr s x f) (h : (zfn P s (ev x) f).run R = some (v, R')) :
  ∃ y w' ρ', zdd P o a w y w' ∧ Step w ρ R w' ρ' R' ∧ RV w' ρ' R' v y := by
 unfold zfn at h
 split at h
 ·rename_i fields hu
  split at h
  ·rename_i fl hfl
   split at h
   ·exact Pr.fail_run h
   ·rename_i hsz
    have hinfo : (P.info? fl.type).isSome = true := by
     unfold Program.cellsOf at hsz
     cases hi : P.info? fl.type with
     | none => rw [hi] at hsz; exact absurd rfl hsz
     | some i => rfl
    have hrun : ∀ ad : Addr, a.eval x = .pointer (some ad) → (execOp a.eval o).run P w = .ok (.value (.pointer (some (ad.add fl.offset)))) w := by
     intro ad hx
     rw [zax _ o _ ho]
     simp only [execOp, Instr.fieldAt, Sem.run_bind, run_underlying hu, Result.andThen_ok, hfl, hx, Instr.sureAddr, Sem.run_pure, fieldPlace, zbr hinfo]
     rw [if_neg hsz]
     simp only [Sem.run_pure, Result.andThen_ok]
    split at h
    ·rename_i r g off hx
     obtain ⟨rfl, rfl⟩ := Pr.ret_run h
     have hp : RB w ρ _ (.pt r g off) (a.eval x) := hev x _ hx
     obtain ⟨⟨ad, hpa⟩, e, he, hf, hl⟩ := hp
     refine ⟨_, w, ρ, .inl (hrun ad hpa), .refl hm, ⟨_, rfl⟩, e, he, hf, fun rt hrt => ⟨(hl rt hrt).1, fun hg => ?_⟩⟩
     obtain ⟨b, o', hρ, hv⟩ := (hl rt hrt).2 hg
     rw [hpa] at hv; cases hv
     exact ⟨b, o', hρ, by rw [zoy, Nat.add_assoc]⟩
    ·rename_i cs lo hx
     obtain ⟨rfl, rfl⟩ := Pr.ret_run h
     obtain ⟨ad, hpv, hs, hr⟩ := (hev x _ hx : RB w ρ _ (.pr cs lo) (a.eval x))
     refine ⟨_, w, ρ, .inl (hrun ad hpv), .refl hm, _, rfl, by rw [zg6]; exact hs, hr.drop _⟩
    ·exact Pr.fail_run h
  ·exact Pr.fail_run h
 ·exact Pr.fail_run h
theorem zg0 {o : Oper} {a : Act} {x : Operand} (ho : o.op = .nilCheck x) {y : Value} (hx : a.eval x = y) (hy : (∃ ad, y = .pointer (some ad)) ∨ ∃ f first caps, y = .func (.func f) first caps) : (execOp a.eval o).run P w = .ok (.value y) w := by
 rw [zax _ o _ ho]
 simp only [execOp, hx]
 rcases hy with ⟨ad, rfl⟩ | ⟨f, first, caps, rfl⟩ <;> rfl
theorem zjl {x : Option V} {n : Int} (h : ztl x = some n) : ∃ k, x = some (.g (.b (.v (.int k n)))) := by
 unfold ztl at h
 split at h
 ·rename_i k n'; cases h; exact ⟨k, rfl⟩
 ·cases h
theorem zz2 {o : Oper} {ev : Operand → Option V} {a : Act} {v : V} {R' : Tab} {t : TypeId} {x i : Operand} (hm : Mem w ρ R) (hev : EvOK w ρ R ev a) (ho : o.op = .indexAddr t x i) (h : (zfo P t (ev x) (ev i)).run R = some (v, R')) :
  ∃ y w' ρ', zdd P o a w y w' ∧ Step w ρ R w' ρ' R' ∧ RV w' ρ' R' v y := by
 unfold zfo at h
 split at h
 ·rename_i e n he hn
  obtain ⟨k, hi⟩ := zjl hn
  have hiv : a.eval i = .int k n := hev i _ hi
  have hrun : ∀ (ad : Addr) (len cap : Nat), a.eval x = .slice (some ad) len cap → 0 ≤ n → n < len → (P.info? e).isSome = true → (execOp a.eval o).run P w = .ok (.value (.pointer (some (ad.add (n.toNat * P.cellsOf e))))) w := by
   intro ad len cap hx h0 h1 hinfo
   rw [zax _ o _ ho]
   simp only [execOp, Instr.indexAt, hiv, hx, asIntOf, Sem.run_bind, Sem.run_pure, Result.andThen_ok, run_underlying (zcj he)]
   rw [if_pos ⟨h0, h1⟩]
   simp only [Sem.run_bind, zbr hinfo, Result.andThen_ok, Sem.run_pure]
  split at h
  ·rename_i r g off len hx
   obtain ⟨rt, hrt, h⟩ := Pr.get_run h
   split at h
   ·rename_i hc
    obtain ⟨hg, hes, h0, h1⟩ := hc
    obtain ⟨rfl, rfl⟩ := Pr.ret_run h
    obtain ⟨_, e', he', hf, hl⟩ := (hev x _ hx : RB w ρ _ (.rf r g off len) (a.eval x))
    rw [hrt] at he'; cases he'
    obtain ⟨ad, cap, hv, hlen, hpos, hrow, hcl, hcap⟩ := (hl rt rfl).2 hg
    rcases hcap with hcap | ⟨b, o', hρ, rfl, hb⟩
    ·omega
    ·have hinfo : (P.info? e).isSome = true := zfc (by rw [← hes]; exact hpos)
     refine ⟨_, w, ρ, .inl (hrun _ len cap hv h0 h1 hinfo), .refl hm, ?_⟩
     rw [zoy, Nat.add_assoc, ← hes, ← Nat.add_mul]
     exact zaxz (w := w) hrt hg hρ
   ·exact Pr.fail_run h
  ·rename_i len cs ex lo hx
   split at h
   ·rename_i hc
    obtain ⟨hpos, h0, h1, h2⟩ := hc
    obtain ⟨rfl, rfl⟩ := Pr.ret_run h
    obtain ⟨ad, cap, hv, hlen, _, hcs⟩ := (hev x _ hx : RB w ρ _ (.ro len cs ex lo) (a.eval x))
    rcases hcs with rfl | ⟨ad, rfl, hs, hr⟩
    ·simp at h2
    ·exact ⟨_, w, ρ, .inl (hrun _ len cap hv h0 h1 (zfc hpos)), .refl hm, _, rfl, by rw [zg6]; exact hs, hr.drop _⟩
   ·exact Pr.fail_run h
  ·exact Pr.fail_run h
 ·exact Pr.fail_run h
theorem z7v {o : Oper} {ev : Operand → Option V} {a : Act} {x : Operand} {i : Nat} {xs : List G} {y : G} (hev : EvOK w ρ R ev a) (ho : o.op = .extract x i) (hx : ev x = some (.tp xs)) (hy : xs[i]? = some y) :
  ∃ z, (execOp a.eval o).run P w = .ok (.value z) w ∧ RV w ρ R (.g y) z := by
 obtain ⟨ys, hv, hs⟩ := hev x _ hx
 have hlt : i < ys.toList.length := by rw [← hs.1]; exact (qh.1 hy).1
 have hz : ys[i]? = some ys[i] := Array.getElem?_eq_getElem (by simpa using hlt)
 refine ⟨ys[i], ?_, hs.2 i y _ hy (by simpa using hz)⟩
 rw [zax _ o _ ho]
 simp only [execOp, hv, Instr.extract, hz, Sem.run_bind, Sem.run_pure, Result.andThen_ok]
theorem zbeo {o : Oper} {ev : Operand → Option V} {a : Act} {args : Array Operand} {argTypes : Array TypeId} {x : Operand} {e n : Nat} (hev : EvOK w ρ R ev a) (ho : o.op = .call { callee := .builtin .len, args, argTypes })
  (hx : args[0]? = some x) (he : argTypes[0]?.bind (zar P) = some e) (hn : lenB (ev x) = some n) : (execOp a.eval o).run P w = .ok (.value (.int .i64 n)) w := by
 obtain ⟨t, ht, he⟩ := qx.1 he
 have hv : ∃ b cap, a.eval x = .slice b n cap := by
  unfold lenB at hn
  split at hn
  ·rename_i r g off n' hv; cases hn
   obtain ⟨⟨b, cap, h⟩, _⟩ := hev x _ hv
   exact ⟨b, cap, h⟩
  ·rename_i n' cs ex lo hv; cases hn
   obtain ⟨b, cap, h, _⟩ := hev x _ hv
   exact ⟨b, cap, h⟩
  ·cases hn
 obtain ⟨b, cap, hv⟩ := hv
 rw [zax _ o _ ho]
 have hargs : (args.map a.eval)[0]? = some (.slice b n cap) := by rw [Array.getElem?_map, hx, ← hv]; rfl
 simp only [execOp, resolve, invoke, builtin, Builtin.len_, Sem.run_bind, Sem.run_pure, Result.andThen_ok, ht, hargs, run_underlying (zcj he), goInt]
theorem zaap {ev : Operand → Option V} {a : Act} (hev : EvOK w ρ R ev a) : ∀ {l : List Operand} {gs : List G}, zim ev l = some gs → RGs w ρ R gs (l.map a.eval)
 | [], gs, h => by simp only [zim, qc] at h; subst h; exact ⟨rfl, fun i x y hx => by simp at hx⟩
 | x :: l, gs, h => by
  simp only [zim] at h
  split at h
  ·rename_i y ys hy hys
   cases h
   have h1 := zaap hev hys
   refine ⟨by simp [h1.1], fun i x' y' hx' hy' => ?_⟩
   cases i with
   | zero => simp at hx' hy'; subst hx' hy'; exact hev x _ hy
   | succ i => exact h1.2 i x' y' (by simpa using hx') (by simpa using hy')
  ·cases h
theorem z4j {o : Oper} {ev : Operand → Option V} {a : Act} {f : FuncId} {first captured : Array Operand} {caps : List G} (hev : EvOK w ρ R ev a) (ho : o.op = .makeFunc (.func f) first captured) (hf : first.size = 0) (hc : zim ev captured.toList = some caps) :
  ∃ z, (execOp a.eval o).run P w = .ok (.value z) w ∧ RV w ρ R (.cl f caps) z := by
 refine ⟨.func (.func f) #[] (captured.map a.eval), ?_, captured.map a.eval, rfl, by rw [Array.toList_map]; exact zaap hev hc⟩
 rw [zax _ o _ ho]
 have : first.map a.eval = #[] := by
  have : first = #[] := kv hf
  rw [this]; simp
 simp only [execOp, Instr.makeFunc, this, Sem.run_bind, Sem.run_pure, Result.andThen_ok]
theorem zgj {ev : Operand → Option V} {a : Act} (hev : EvOK w ρ R ev a) {d n : Nat} {x : Option Operand} (h : zbx ev d x = some n) :
  (x = none ∧ n = d) ∨ ∃ y k, x = some y ∧ a.eval y = .int k n := by
 cases x with
 | none => simp only [zbx, qc] at h; exact .inl ⟨rfl, h.symm⟩
 | some y =>
  right
  simp only [zbx] at h
  split at h
  ·rename_i m hm
   split at h
   ·rename_i h0
    cases h
    obtain ⟨k, hk⟩ := zjl hm
    have : a.eval y = .int k m := hev y _ hk
    exact ⟨y, k, rfl, by rw [this, Int.toNat_of_nonneg h0]⟩
   ·cases h
  ·cases h
theorem zdi {k : IntKind} {n m : Nat} {code : BoundsCode} (h : n ≤ m) : (Instr.sliceBound (.int k n) m code).run P w = .ok n w := by
 simp only [Instr.sliceBound, asIntOf, Sem.run_bind, Sem.run_pure, Result.andThen_ok]
 rw [if_pos ⟨by omega, by omega⟩]
 simp
theorem zi6 {len cap l h : Nat} {lo hi : Option Value} (hlo : (lo = none ∧ l = 0) ∨ ∃ k, lo = some (.int k l)) (hhi : (hi = none ∧ h = len) ∨ ∃ k, hi = some (.int k h)) (h1 : l ≤ h) (h2 : h ≤ cap) :
  (Instr.sliceBounds true len cap lo hi none).run P w = .ok (l, h, cap) w := by
 unfold Instr.sliceBounds
 rcases hlo with ⟨rfl, rfl⟩ | ⟨k, rfl⟩ <;> rcases hhi with ⟨rfl, rfl⟩ | ⟨k', rfl⟩ <;>
  simp only [Sem.run_bind, Sem.run_pure, Result.andThen_ok, zdi h1, zdi h2, Option.isSome_none, qj, if_false, if_true]
theorem zpu {len cap l h m : Nat} {lo hi : Option Value} {k0 : IntKind} (hlo : (lo = none ∧ l = 0) ∨ ∃ k, lo = some (.int k l)) (hhi : ∃ k, hi = some (.int k h)) (h1 : l ≤ h) (h2 : h ≤ m) (h3 : m ≤ cap) :
  (Instr.sliceBounds true len cap lo hi (some (.int k0 m))).run P w = .ok (l, h, m) w := by
 unfold Instr.sliceBounds
 obtain ⟨k', rfl⟩ := hhi
 rcases hlo with ⟨rfl, rfl⟩ | ⟨k, rfl⟩ <;>
  simp only [Sem.run_bind, Sem.run_pure, Result.andThen_ok, zdi h1, zdi h2, zdi h3, Option.isSome_some, qj, if_false, if_true]
theorem zoc {a : Act} {x : Option Operand} {n d : Nat} (h : (x = none ∧ n = d) ∨ ∃ y k, x = some y ∧ a.eval y = .int k n) : (x.map a.eval = none ∧ n = d) ∨ ∃ k, x.map a.eval = some (.int k n) := by
 rcases h with ⟨rfl, h⟩ | ⟨y, k, rfl, hy⟩
 ·exact .inl ⟨rfl, h⟩
 ·exact .inr ⟨k, by simp [hy]⟩
theorem ReadC.win {S : Bool → Nat → Prop} {ad : Addr} {cs : List C} (h : ReadC w S ad cs) (off n : Nat) : ReadC w S (ad.add off) (win cs off n) := fun i c hi => by
 rw [zoq] at hi
 split at hi
 ·obtain ⟨x, hx, hc⟩ := h _ c hi
  exact ⟨x, by rw [zsi]; exact hx, hc⟩
 ·cases hi
theorem zauf {o : Oper} {ev : Operand → Option V} {a : Act} {v : V} {R' : Tab} {t : TypeId} {x : Operand} {lo hi mx : Option Operand} (hm : Mem w ρ R) (hev : EvOK w ρ R ev a) (ho : o.op = .slice t x lo hi mx) (h : (zje P o ev t x lo hi mx).run R = some (v, R')) :
  ∃ y w' ρ', zdd P o a w y w' ∧ Step w ρ R w' ρ' R' ∧ RV w' ρ' R' v y := by
 unfold zje at h
 split at h
 ·obtain ⟨hv, rfl⟩ := Pr.ofOpt_run h
  obtain ⟨y, h1, h2⟩ := zwy (P := P) (w := w) hv hev
  exact ⟨y, w, ρ, .inl h1, .refl hm, h2⟩
 ·rename_i e he
  have hrun : ∀ (ad : Option Addr) (len cap l h m : Nat), a.eval x = .slice ad len cap → (P.info? e).isSome = true → (Instr.sliceBounds true len cap (lo.map a.eval) (hi.map a.eval) (mx.map a.eval)).run P w = .ok (l, h, m) w →
    (execOp a.eval o).run P w = .ok (.value (.slice (if m = l then ad else ad.map (·.add (l * P.cellsOf e))) (h - l) (m - l))) w := by
   intro ad len cap l h m hx hinfo hb
   rw [zax _ o _ ho]
   simp only [execOp, Instr.sliceAt, hx, Sem.run_bind, run_underlying (zcj he), Result.andThen_ok, Instr.slice, hb, zbr hinfo, Sem.run_pure]
  split at h
  ·rename_i r g off len hx
   split at h
   ·rename_i l hh hlo hhi
    obtain ⟨rt, hrt, h⟩ := Pr.get_run h
    split at h
    ·rename_i hc
     obtain ⟨hg, hes, h1, h2⟩ := hc
     obtain ⟨rfl, rfl⟩ := Pr.ret_run h
     obtain ⟨_, e', he', hf, hl⟩ := (hev x _ hx : RB w ρ _ (.rf r g off len) (a.eval x))
     rw [hrt] at he'; cases he'
     obtain ⟨ad, cap, hv, hlen, hpos, hrow, hcl, hcap⟩ := (hl rt rfl).2 hg
     have hinfo := zfc (P := P) (t := e) (by rw [← hes]; exact hpos)
     have hb := zi6 (P := P) (w := w) (len := len) (cap := cap) (zoc (zgj hev hlo)) (zoc (zgj hev hhi)) h1 (by omega)
     refine ⟨_, w, ρ, .inl (hrun ad len cap l hh cap hv hinfo hb), .refl hm, ⟨_, _, rfl⟩, .live rt, hrt, (fun h => by cases h), fun rt' hrt' => ?_⟩
     cases hrt'
     refine ⟨by omega, fun _ => ⟨_, cap - l, rfl, by omega, hpos, hrow, ?_, ?_⟩⟩
     ·rw [show off + l + (cap - l) = off + cap by omega]; exact hcl
     ·by_cases hml : cap = l
      ·left; omega
      ·rcases hcap with hcap | ⟨b, o', hρ, rfl, hb'⟩
       ·left; omega
       ·right
        refine ⟨b, o', hρ, ?_, by rw [show off + l + (cap - l) = off + cap by omega]; exact hb'⟩
        rw [if_neg hml]
        simp only [Option.map_some, zoy, ← hes, Nat.add_mul, Nat.add_assoc]
    ·exact Pr.fail_run h
   ·exact Pr.fail_run h
  ·rename_i n cs ex lk hx
   split at h
   ·rename_i l hh hlo hhi
    obtain ⟨ad, cap, hv, hlen, hex, hcs⟩ := (hev x _ hx : RB w ρ _ (.ro n cs ex lk) (a.eval x))
    have hro : ∀ (m : Nat) (ex' : Bool), l ≤ hh → hh ≤ n → m ≤ cap → hh ≤ m → (ex' = true → m = hh) →
      RB w ρ R (.ro (hh - l) (win cs (l * P.cellsOf e) ((hh - l) * P.cellsOf e)) ex' lk) (.slice (if m = l then ad else ad.map (·.add (l * P.cellsOf e))) (hh - l) (m - l)) := by
     intro m ex' h1 h2 h3 h4 h5
     refine ⟨_, m - l, rfl, by omega, fun h => by have := h5 h; omega, ?_⟩
     by_cases hml : m = l
     ·left
      have : hh - l = 0 := by omega
      simp [this, win]
     ·rw [if_neg hml]
      rcases hcs with rfl | ⟨ad', rfl, hs, hr⟩
      ·left; simp [win]
      ·exact .inr ⟨_, rfl, by rw [zg6]; exact hs, hr.win _ _⟩
    split at h
    ·split at h
     ·rename_i hc
      obtain ⟨hpos, h1, h2⟩ := hc
      obtain ⟨rfl, rfl⟩ := Pr.ret_run h
      have hb := zi6 (P := P) (w := w) (len := n) (cap := cap) (zoc (zgj hev hlo)) (zoc (zgj hev hhi)) h1 (by omega)
      refine ⟨_, w, ρ, .inl (hrun ad n cap l hh cap hv (zfc hpos) hb), .refl hm, hro cap _ h1 h2 (qi _) (by omega) fun h => ?_⟩
      simp only [qo, Option.isNone_iff_eq_none] at h
      have := hex h.1
      rw [h.2] at hhi
      simp only [zbx, qc] at hhi
      omega
     ·exact Pr.fail_run h
    ·split at h
     ·rename_i m hmx
      split at h
      ·rename_i hc
       obtain ⟨hpos, h1, h2, h3, h4⟩ := hc
       obtain ⟨rfl, rfl⟩ := Pr.ret_run h
       have hmx' := zgj hev hmx
       rcases hmx' with ⟨h0, _⟩ | ⟨y, k, hyy, hy⟩
       ·cases h0
       ·have hhi' := zoc (zgj hev hhi)
        rcases hhi' with ⟨h0, _⟩ | hhi'
        ·exfalso
         cases hi with
         | none => simp at h4
         | some _ => simp at h0
        ·cases hyy
         have hb := zpu (P := P) (w := w) (len := n) (cap := cap) (m := m) (k0 := k) (zoc (zgj hev hlo)) hhi' h1 (by omega) (by omega)
         refine ⟨_, w, ρ, .inl (hrun ad n cap l hh m hv (zfc hpos) (by simpa [hy] using hb)), .refl hm, hro m _ h1 (by omega) (by omega) (by omega) fun _ => h2.symm⟩
      ·exact Pr.fail_run h
     ·exact Pr.fail_run h
   ·exact Pr.fail_run h
  ·exact Pr.fail_run h
end
end Go.Gm
