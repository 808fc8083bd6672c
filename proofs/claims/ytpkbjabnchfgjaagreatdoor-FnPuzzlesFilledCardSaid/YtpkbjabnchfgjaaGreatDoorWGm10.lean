import Derived.Test.YtpkbjabnchfgjaaGreatDoorWGm9
namespace Go.Gm
set_option linter.unusedSimpArgs false
set_option linter.unusedVariables false
set_option linter.unnecessarySimpa false
section
variable {P : Program} {w : World} {ρ : Rho} {R : Tab}
theorem RBs.append {xs xs' : List B} {ys ys' : List Value} (h : RBs w ρ R xs ys) (h' : RBs w ρ R xs' ys') : RBs w ρ R (xs ++ xs') (ys ++ ys') := by
 refine RBs.of_get (by simp [h.1, h'.1]) fun i x hx => ?_
 by_cases hi : i < xs.length
 ·rw [kn hi] at hx
  obtain ⟨y, hy, hr⟩ := h.get hx
  exact ⟨y, by rw [kn (by rw [← h.1]; exact hi)]; exact hy, hr⟩
 ·rw [kl (by omega)] at hx
  obtain ⟨y, hy, hr⟩ := h'.get hx
  exact ⟨y, by rw [kl (by rw [← h.1]; omega), ← h.1]; exact hy, hr⟩
def z63 (P : Program) (w : World) (ad : Option Addr) (k : Nat) (news : List Value) (w' : World) : Prop :=
 match ad with
 | some a => (storeCells (a.add k) news).run P w = .ok () w'
 | none => w' = w
theorem zf0 (t tx ty e : TypeId) (i : TypeInfo) (ht : P.underlying t = some (.slice e)) (hi : P.info? e = some i) (base : Option Addr) (sLen sCap : Nat) (x : Value) (n : Nat) (news : List Value) (hs : Src P i.size tx x n news w)
  (hroom : sLen + n ≤ sCap) {w' : World} (hst : z63 P w base (sLen * i.size) news w') :
  (Builtin.append_ #[t, tx] ty #[.slice base sLen sCap, x]).run P w = .ok (.slice base (sLen + n) sCap) w' := by
 cases base with
 | none =>
  have hst : w' = w := hst
  subst hst
  rcases hs.kind with ⟨e', hk⟩ | hk <;> simp [Builtin.append_, run_underlying ht, run_underlying hk, sizeOf, typeInfo, hi, hs.len, hroom, hs.cells]
 | some a =>
  have hst : (storeCells (a.add (sLen * i.size)) news).run P w = .ok () w' := hst
  rcases hs.kind with ⟨e', hk⟩ | hk <;> simp [Builtin.append_, run_underlying ht, run_underlying hk, sizeOf, typeInfo, hi, hs.len, hroom, hs.cells, hst]
theorem zc8 {o : Oper} {a : Act} {args : Array Operand} {argTypes : Array TypeId} {s x : Operand} {t tx : TypeId} (ho : o.op = .call { callee := .builtin .append, args, argTypes }) (ha : args.toList = [s, x]) (ht : argTypes.toList = [t, tx]) {v : Value} {w' : World}
  (h : (Builtin.append_ #[t, tx] o.type #[a.eval s, a.eval x]).run P w = .ok v w') : (execOp a.eval o).run P w = .ok (.value v) w' := by
 rw [zax _ o _ ho]
 have h1 : args = #[s, x] := Array.toList_inj.1 ha
 have h2 : argTypes = #[t, tx] := Array.toList_inj.1 ht
 subst h1 h2
 simp only [execOp, resolve, Sem.run_bind, Sem.run_pure, Result.andThen_ok, invoke, builtin, List.map_toArray, qu, List.map_nil, h]
theorem zg4 (ad : Addr) : (storeCells ad []).run P w = .ok () w := rfl
theorem zln {l : List B} {ys : List Value} (h : RBs w ρ R l ys) (hc : l.all B.isCell = true) : ∀ u ∈ ys, u.oneCell' = true := by
 intro u hu
 obtain ⟨i, hi⟩ := List.getElem?_of_mem hu
 have hlt : i < l.length := by rw [h.1]; exact (qh.1 hi).1
 exact (z67 (qt.1 hc _ (List.getElem_mem hlt)) (h.2 i _ u (qb hlt) hi)).1
theorem zem {l : List B} {a : Option Addr} {n cap size : Nat} (hl : l.length = n * size) (h : l = [] ∨ ∃ ad, a = some ad ∧ Cells w ρ R ad l) :
  ∃ ys : List Value, RBs w ρ R l ys ∧ (Builtin.firstCells size n (.slice a n cap)).run P w = .ok ys.toArray w ∧ (Builtin.firstCells size n (.slice a n cap)).run P w.drew = .ok ys.toArray w.drew := by
 rcases h with rfl | ⟨ad, rfl, h⟩
 ·have h0 : n * size = 0 := by simpa using hl.symm
  cases a with
  | none => exact ⟨[], .nil, rfl, rfl⟩
  | some ad => exact ⟨[], .nil, by simp only [Builtin.firstCells, h0]; rfl, by simp only [Builtin.firstCells, h0]; rfl⟩
 ·obtain ⟨ys, h1, h2⟩ := h.list
  refine ⟨ys, h1, ?_, ?_⟩
  ·simp only [Builtin.firstCells]
   rw [← hl, h1.1]
   exact run_loadCells_list w ad ys h2
  ·simp only [Builtin.firstCells]
   rw [← hl, h1.1]
   exact run_loadCells_list w.drew ad ys h2
theorem zv7 {es len n : Nat} {olds news : List Value} {z : Value} {cap0 : Nat} {e : TypeId} (hes : z.cells.size = es) (hpos : 0 < es) (ho : olds.length = len * es) (hn : news.length = n * es) :
  let cap := grownCap w (len + n) cap0 e
  let c := (olds ++ news).toArray ++ Builtin.zeroCells z.cells (cap - (len + n))
  len + n ≤ cap ∧ c.size = cap * es ∧ ∀ (i : Nat) y, (olds ++ news)[i]? = some y → c[i]? = some y := by
 intro cap c
 have hge : len + n ≤ cap := grownCap_ge w (len + n) cap0 e
 refine ⟨hge, ?_, fun i y hy => ?_⟩
 ·simp only [c, Builtin.zeroCells, Array.size_append, List.size_toArray, ql, ho, hn, Array.size_map, Array.size_range, hes]
  rw [← Nat.add_mul, ← Nat.add_mul]
  congr 1; omega
 ·have hlt : i < (olds ++ news).length := (qh.1 hy).1
  simp only [c]
  rw [Array.getElem?_append_left (by simpa using hlt)]
  simpa using hy
theorem zae9 {o : Oper} {ev : Operand → Option V} {a : Act} {base : Nat} {v : V} {R' : Tab} {args : Array Operand} {argTypes : Array TypeId} {s x : Operand} {t tx : TypeId} (hm : Mem w ρ R) (hev : EvOK w ρ R ev a)
  (ho : o.op = .call { callee := .builtin .append, args, argTypes }) (ha : args.toList = [s, x]) (hat : argTypes.toList = [t, tx]) (h : (zig P t tx (ev s) (ev x) base).run R = some (v, R')) :
  ∃ y w' ρ', zdd P o a w y w' ∧ Step w ρ R w' ρ' R' ∧ RV w' ρ' R' v y := by
 unfold zig at h
 split at h
 ·rename_i e e' sb xb he he' hs hx
  split at h
  ·exact Pr.fail_run h
  ·rename_i n hn
   obtain ⟨l, R1, hc, h1⟩ := Pr.bind_run h
   clear h
   obtain ⟨rfl, ax, n', cx, hxv, hnx, hk, hl⟩ := zgt hm hc (hev x _ hx)
   have hnn : n' = n := by
    rcases hk with ⟨cs, ex, lo, rfl⟩ | ⟨r, g, off, rfl⟩ <;> simpa [lenB] using hn
   subst hnn
   split at h1
   ·rename_i hcond
    obtain ⟨hll, hpos, hz⟩ := hcond
    obtain ⟨l', R2, hcl, h2⟩ := Pr.bind_run h1
    clear h1
    split at h2
    ·rename_i hcells
     obtain ⟨zl, hzl, hzlen⟩ := qf.1 hz
     obtain ⟨i, z, hi, hzv, rfl⟩ := zix hzl
     have hzs : z.cells.size = P.cellsOf e := by rw [← hzlen]; simp
     have hsz := zo4 hi
     have hbytes := zo1 hi
     obtain ⟨news, hnews, hf1, hf2⟩ := zem (P := P) (cap := cx) hll hl
     obtain ⟨st, hnews', hclosed⟩ := zi7 hm hcl hnews
     have hnlen : news.length = n' * P.cellsOf e := by rw [← hnews.1, hll]
     have hsrc : Src P i.size tx (a.eval x) n' news w := by
      rw [hxv]
      exact ⟨.inl ⟨e', zcj he'⟩, fun _ => rfl, by rw [← hsz]; exact hf1, by rw [← hsz]; exact hf2, by rw [hnlen, hsz], zln hnews' hcells⟩
     have hl'len : l'.length = n' * P.cellsOf e := by rw [hnews'.1, hnlen]
     split at h2
     ·rename_i r g off len
      obtain ⟨rt, hrt, h3⟩ := Pr.get_run h2
      clear h2
      split at h3
      ·rename_i hcc
       obtain ⟨hg, hes, hext, hrow, hbound⟩ := hcc
       have hsv : RB w ρ R2 (.rf r g off len) (a.eval s) := zj2 st.ext (hev s _ hs)
       obtain ⟨_, e1, he1, hf, hlv⟩ := hsv
       rw [hrt] at he1; cases he1
       obtain ⟨ad, cap, hv, hlen, hpos', hrow', hcl', hcap⟩ := (hlv rt rfl).2 hg
       have hroot := st.mem.roots r rt hrt
       have hb2 : 2 * ((len + n') * i.bytes) ≤ 140737488355328 ∧ len + n' ≤ 140737488355328 := by
        have h0 : 2 * ((len + n') * i.bytes + (len + n')) ≤ 140737488355328 := by
         have := hbound
         rw [hbytes, Nat.mul_add, Nat.mul_one] at this
         simpa [zda] using this
        omega
       have zb2 : ∀ (w' : World), len + n' ≤ cap → z63 P w ad (len * i.size) news w' →
         (execOp a.eval o).run P w = .ok (.value (.slice ad (len + n') cap)) w' := fun w' hroom hst =>
        zc8 ho ha hat (by rw [hv]; exact zf0 (w := w) t tx o.type e i (zcj he) hi ad len cap _ n' news hsrc hroom hst)
       obtain ⟨_, hrt', h4⟩ := Pr.put_run h3
       obtain ⟨rfl, rfl⟩ := Pr.ret_run h4
       by_cases hn0' : n' = 0
       ·subst hn0'
        have hnil : news = [] := List.length_eq_zero_iff.1 (by rw [hnlen]; simp)
        have hl'nil : l' = [] := List.length_eq_zero_iff.1 (by rw [hl'len]; simp)
        subst hnil hl'nil
        have hwl : (win rt.cells (off * rt.es) (len * rt.es)).length = len * rt.es := zfj (by rw [← Nat.add_mul]; exact hext)
        have hex : (execOp a.eval o).run P w = .ok (.value (.slice ad (len + 0) cap)) w := zb2 w (by omega) (by cases ad <;> first | rfl | exact zg4 _)
        have hclosed' : ∀ y ∈ win rt.cells (off * rt.es) (len * rt.es) ++ [], y.closed = true := by
         intro y hy
         rw [kq] at hy
         exact hroot.2 hrow y (List.mem_of_mem_drop (List.mem_of_mem_take hy))
        have fin : ∀ {o1 : Nat} {b o' : Nat} {c : Array Value} {T : TypeId} {fr : Nat × Nat}, ρ r = some (b, o') → w.heap[b]? = some (.cells c T fr) → o1 + len * rt.es ≤ c.size →
          (∀ (j : Nat) y, (win rt.cells (off * rt.es) (len * rt.es) ++ [])[j]? = some y → ∃ z, c[o1 + j]? = some z ∧ RB w ρ R2 y z) →
          (cap = 0 ∨ (o1 = o' + off * rt.es ∧ ad = some ⟨b, o' + off * rt.es, none⟩ ∧ o1 + cap * rt.es ≤ c.size)) →
          ∃ y w' ρ', zdd P o a w y w' ∧ Step w ρ R1 w' ρ' (R2.set r (.live { rt with g := g + 1, cells := win rt.cells (off * rt.es) (len * rt.es) ++ [] })) ∧ RV w' ρ' (R2.set r (.live { rt with g := g + 1, cells := win rt.cells (off * rt.es) (len * rt.es) ++ [] })) (.g (.b (.rf r (g + 1) 0 (len + 0)))) y := by
         intro o1 b o' c T fr hρ hb hsz hcl2 hcc
         have hput := Step.put st.mem (rt' := { rt with g := g + 1, cells := win rt.cells (off * rt.es) (len * rt.es) ++ [] }) hrt hρ hb (c' := c) rfl (by show rt.g ≤ g + 1; omega)
           (fun h => by have : g + 1 = rt.g := h; omega) (o' := o1) (by simp only [ql, hwl, qq]; omega) hcl2 (fun _ y hy => hclosed' y hy)
         rw [zat4 hb] at hput
         refine ⟨_, w, _, .inl hex, st.trans hput, ⟨_, _, rfl⟩, .live _, za0 hrt, (fun h => by cases h), fun rt1 h1 => ?_⟩
         cases h1
         refine ⟨qi _, fun _ => ⟨_, cap, rfl, by omega, hpos', hrow', ?_, ?_⟩⟩
         ·simp only [ql, hwl, qq, Nat.zero_add, Nat.add_zero]
          exact ki _ hlen
         ·rcases hcc with h0 | ⟨ho1, had, hbz⟩
          ·exact .inl h0
          ·exact .inr ⟨b, o1, za1 _ _ _, by rw [had, ho1]; simp, by simp only [bsz, hb, Nat.zero_add]; exact hbz⟩
        cases hρ : ρ r with
        | some bo =>
         obtain ⟨b, o'⟩ := bo
         have hr1 := hroot.1
         rw [hρ] at hr1
         obtain ⟨c, T, fr, hb, hfz, hsz1, hcells1⟩ := hr1
         have hext' : off * rt.es + len * rt.es ≤ rt.cells.length := by rw [← Nat.add_mul]; exact hext
         refine fin (o1 := o' + off * rt.es) hρ hb (by omega) (fun j y hy => ?_) ?_
         ·rw [kq, zoq] at hy
          split at hy
          ·obtain ⟨z, hz, hr⟩ := hcells1 _ y hy
           exact ⟨z, by rw [Nat.add_assoc]; exact hz, hr⟩
          ·cases hy
         ·rcases hcap with hcap | ⟨b2, o2, hρ2, had, hbz⟩
          ·exact .inl hcap
          ·rw [hρ] at hρ2; cases hρ2
           have hbs : bsz w b = c.size := by simp [bsz, hb]
           rw [hbs, Nat.add_mul] at hbz
           exact .inr ⟨rfl, had, by omega⟩
        | none =>
         have hr1 := hroot.1
         rw [hρ] at hr1
         have hr1 : rt.cells = [] := hr1
         have hc0 : win rt.cells (off * rt.es) (len * rt.es) ++ [] = [] := by rw [hr1]; simp [win]
         have hlen0 : len = 0 := by
          rw [hr1] at hext
          simp only [qq, Nat.le_zero, Nat.mul_eq_zero] at hext
          omega
         have hcap0 : cap = 0 := by
          rcases hcap with hcap | ⟨b2, o2, hρ2, _⟩
          ·exact hcap
          ·rw [hρ] at hρ2; cases hρ2
         have hput := Step.put0 st.mem (rt' := { rt with g := g + 1, cells := win rt.cells (off * rt.es) (len * rt.es) ++ [] }) hrt hρ (by show rt.g < g + 1; omega) hc0
         refine ⟨_, w, ρ, .inl hex, st.trans hput, ⟨_, _, rfl⟩, .live _, za0 hrt, (fun h => by cases h), fun rt1 h1 => ?_⟩
         cases h1
         exact ⟨qi _, fun _ => ⟨_, cap, rfl, by omega, hpos', hrow', by rw [hc0]; simp, .inl hcap0⟩⟩
       have hn0 : 0 < n' := by omega
       have hnl2 : news.length = n' * rt.es := by rw [hnlen, hes]
       have hl2 : l'.length = n' * rt.es := by rw [hl'len, hes]
       have hwl : (win rt.cells (off * rt.es) (len * rt.es)).length = len * rt.es := zfj (by rw [← Nat.add_mul]; exact hext)
       have hclosed' : ∀ y ∈ win rt.cells (off * rt.es) (len * rt.es) ++ l', y.closed = true := by
        intro y hy
        rcases kg.1 hy with hy | hy
        ·exact hroot.2 hrow y (List.mem_of_mem_drop (List.mem_of_mem_take hy))
        ·exact hclosed y hy
       by_cases hroom : len + n' ≤ cap
       ·rcases hcap with hcap | ⟨b, o', hρ, rfl, hbz⟩
        ·omega
        ·have hr1 := hroot.1
         rw [hρ] at hr1
         obtain ⟨c, T, fr, hb, hfz, hsz1, hcells1⟩ := hr1
         have hbs : bsz w b = c.size := by simp [bsz, hb]
         rw [hbs] at hbz
         have e1 : (off + cap) * rt.es = off * rt.es + cap * rt.es := Nat.add_mul ..
         have e2 : (len + n') * rt.es = len * rt.es + n' * rt.es := Nat.add_mul ..
         have e3 : (len + n') * rt.es ≤ cap * rt.es := ki _ hroom
         have hst2 := zci (P := P) (b := b) (o := o' + off * rt.es + len * rt.es) (T := T) (fr := fr) news 0 c w hb hfz (by rw [hnl2]; omega) (zln hnews' hcells)
         rw [Nat.add_zero] at hst2
         have hput := Step.put st.mem (rt' := { rt with g := g + 1, cells := win rt.cells (off * rt.es) (len * rt.es) ++ l' }) hrt hρ hb (c' := ovr c (o' + off * rt.es + len * rt.es) news) (by simp) (by show rt.g ≤ g + 1; omega)
          (fun h => by have : g + 1 = rt.g := h; omega) (o' := o' + off * rt.es) (by simp only [ql, hwl, hl2]; omega) (fun j y hy => by
           rw [zk5 _ _ _ _ (by rw [hnl2]; omega), hnl2]
           by_cases hj : j < len * rt.es
           ·rw [kn (by rw [hwl]; exact hj), zoq, if_pos hj] at hy
            rw [if_neg (by omega)]
            obtain ⟨z, hz, hr⟩ := hcells1 _ y hy
            exact ⟨z, by rw [Nat.add_assoc]; exact hz, hr⟩
           ·rw [kl (by rw [hwl]; omega), hwl] at hy
            obtain ⟨z, hz, hr⟩ := hnews'.get hy
            have hlt := (qh.1 hz).1
            rw [if_pos (by omega)]
            exact ⟨z, by rw [show o' + off * rt.es + j - (o' + off * rt.es + len * rt.es) = j - len * rt.es by omega]; exact hz, hr⟩) (fun hrw y hy => hclosed' y hy)
         refine ⟨_, _, _, .inl (zb2 _ hroom ?_), st.trans hput, ⟨_, _, rfl⟩, .live _, za0 hrt, (fun h => by cases h), fun rt1 h1 => ?_⟩
         ·simp only [z63, zoy]
          rw [← hsz, ← hes]
          exact hst2
         ·cases h1
          refine ⟨qi _, fun _ => ⟨_, cap, rfl, hroom, hpos', hrow', by simp only [ql, hwl, hl2, Nat.zero_add]; omega, .inr ⟨b, _, za1 _ _ _, by simp, ?_⟩⟩⟩
          have : bsz (setB w b (.cells (ovr c (o' + off * rt.es + len * rt.es) news) T fr)) b = c.size := by
           simp [bsz, zdj (kc.1 hb).1]
          rw [this, Nat.zero_add]; show o' + off * rt.es + cap * rt.es ≤ c.size; omega
       ·have hwin : win rt.cells (off * rt.es) (len * rt.es) = [] ∨ ∃ ad', ad = some ad' ∧ Cells w ρ R2 ad' (win rt.cells (off * rt.es) (len * rt.es)) := by
         rcases hcap with hcap | ⟨b, o', hρ, rfl, hbz⟩
         ·left
          have : len = 0 := by omega
          subst this; simp [win]
         ·exact .inr ⟨_, rfl, zff st.mem hrt hρ _ _⟩
        obtain ⟨olds, ho1, _, ho3⟩ := zem (P := P) (cap := cap) (size := rt.es) hwl hwin
        have hnc := zwe (need := len + n') (old := cap) (by omega)
        have hrun := run_append_grow_src (w := w) t tx o.type e i z (zcj he) hi hzv ad len cap olds (by rw [← hsz, ← hes]; exact ho3) _ n' news hsrc (by omega) (by omega)
         (Nat.le_trans (ki _ hnc) (by rw [Nat.mul_assoc]; omega))
        have holen : olds.length = len * rt.es := by rw [← ho1.1, hwl]
        obtain ⟨g1, g2, g3⟩ := zv7 (w := w) (cap0 := cap) (e := e) (z := z) (es := rt.es) (by rw [hzs, hes]) hpos' holen hnl2
        have hrel := RBs.append ho1 hnews'
        have hmv := Step.move st.mem (rt' := { rt with g := g + 1, cells := win rt.cells (off * rt.es) (len * rt.es) ++ l' }) hrt (c := (olds ++ news).toArray ++ Builtin.zeroCells z.cells (grownCap w (len + n') cap e - (len + n'))) (T := e) (fr := (0, 0)) rfl
         (by show rt.g < g + 1; omega) (by rw [g2]; simp only [ql, hwl, hl2, ← Nat.add_mul]; exact ki _ g1) (fun j y hy => let ⟨z, hz, hr⟩ := hrel.get hy; ⟨z, g3 j z hz, hr⟩) (fun _ y hy => hclosed' y hy)
         (w' := w.drew.alloc (.cells ((olds ++ news).toArray ++ Builtin.zeroCells z.cells (grownCap w (len + n') cap e - (len + n'))) e)) rfl rfl rfl
        refine ⟨_, _, _, .inl (zc8 ho ha hat (by rw [hv]; exact hrun)), st.trans hmv, ⟨_, _, rfl⟩, .live _, za0 hrt, (fun h => by cases h), fun rt1 h1 => ?_⟩
        cases h1
        refine ⟨qi _, fun _ => ⟨_, _, rfl, g1, hpos', hrow', by simp only [ql, hwl, hl2, ← Nat.add_mul, Nat.zero_add]; exact ki _ g1, .inr ⟨w.heap.size, 0, za1 _ _ _, by simp, ?_⟩⟩⟩
        have hnew : (w.drew.alloc (.cells ((olds ++ news).toArray ++ Builtin.zeroCells z.cells (grownCap w (len + n') cap e - (len + n'))) e)).heap[w.heap.size]? = some (.cells ((olds ++ news).toArray ++ Builtin.zeroCells z.cells (grownCap w (len + n') cap e - (len + n'))) e) := zfe w.drew _
        simp only [bsz, hnew]
        rw [g2]; simp
      ·exact Pr.fail_run h3
     ·rename_i len cs lo
      split at h2
      ·rename_i hcc
       obtain ⟨hcs, hbound⟩ := hcc
       obtain ⟨ad, cap, hv, hlen, hex, hcs'⟩ := (zj2 st.ext (hev s _ hs) : RB w ρ R2 (.ro len cs true lo) (a.eval s))
       obtain rfl : cap = len := hex rfl
       have hb2 : 2 * ((cap + n') * i.bytes) ≤ 140737488355328 ∧ cap + n' ≤ 140737488355328 := by
        have h0 : 2 * ((cap + n') * i.bytes + (cap + n')) ≤ 140737488355328 := by
         have := hbound
         rw [hbytes, Nat.mul_add, Nat.mul_one] at this
         simpa [zda] using this
        omega
       split at h2
       ·rename_i hn0
        obtain ⟨hn0, _⟩ := hn0
        subst hn0
        obtain ⟨rfl, rfl⟩ := Pr.ret_run h2
        have hnil : news = [] := List.length_eq_zero_iff.1 (by rw [hnlen]; simp)
        subst hnil
        refine ⟨_, w, ρ, .inl (zc8 ho ha hat (by rw [hv]; exact zf0 (w := w) t tx o.type e i (zcj he) hi ad cap cap _ 0 [] hsrc (by omega) (w' := w) (by cases ad <;> first | rfl | exact zg4 _))), st, ad, cap, rfl, hlen, fun _ => rfl, hcs'⟩
       ·rename_i hnn
        obtain ⟨hfr, h3⟩ := Pr.mk_run h2
        obtain ⟨rfl, rfl⟩ := Pr.ret_run h3
        by_cases hn0 : n' = 0
        ·subst hn0
         have hc0 : cap = 0 := by
          rcases Nat.eq_zero_or_pos cap with h | h
          ·exact h
          ·exact absurd ⟨rfl, by omega⟩ hnn
         subst hc0
         have hnil : news = [] := List.length_eq_zero_iff.1 (by rw [hnlen]; simp)
         subst hnil
         have hcs0 : cs = [] := List.length_eq_zero_iff.1 (by rw [hcs]; simp)
         have hl0 : l' = [] := List.length_eq_zero_iff.1 (by rw [hl'len]; simp)
         subst hcs0 hl0
         have st2 := Step.make0 st.mem (rt := ⟨0, P.cellsOf e, true, []⟩) hfr rfl
         refine ⟨_, w, _, .inl (zc8 ho ha hat (by rw [hv]; exact zf0 (w := w) t tx o.type e i (zcj he) hi ad 0 0 _ 0 [] hsrc (by omega) (w' := w) (by cases ad <;> first | rfl | exact zg4 _))), st.trans st2,
          ⟨ad, 0, rfl⟩, .live ⟨0, P.cellsOf e, true, []⟩, za0 hfr, (fun h => by cases h), fun rt hrt => ?_⟩
         cases hrt
         exact ⟨qi _, fun _ => ⟨ad, 0, rfl, qi _, hpos, rfl, by simp, .inl rfl⟩⟩
        have hnl2 := hnlen
        have hmap : (cs.map C.toB).length = cap * P.cellsOf e := by simpa using hcs
        have hwin : cs.map C.toB = [] ∨ ∃ ad', ad = some ad' ∧ Cells w ρ R2 ad' (cs.map C.toB) := hcs'.imp (fun h => by rw [h]; rfl) fun ⟨ad', h1, _, h3⟩ => ⟨ad', h1, h3.cells⟩
        obtain ⟨olds, ho1, _, ho3⟩ := zem (P := P) (cap := cap) hmap hwin
        have hnc := zwe (need := cap + n') (old := cap) (by omega)
        have hrun := run_append_grow_src (w := w) t tx o.type e i z (zcj he) hi hzv ad cap cap olds (by rw [← hsz]; exact ho3) _ n' news hsrc (by omega) (by omega)
         (Nat.le_trans (ki _ hnc) (by rw [Nat.mul_assoc]; omega))
        have holen : olds.length = cap * P.cellsOf e := by rw [← ho1.1, hmap]
        obtain ⟨g1, g2, g3⟩ := zv7 (w := w) (cap0 := cap) (e := e) (z := z) (es := P.cellsOf e) hzs hpos holen hnl2
        have hrel := RBs.append ho1 hnews'
        have hlen2 : (cs.map C.toB ++ l').length = (cap + n') * P.cellsOf e := by rw [ql, hmap, hl'len, Nat.add_mul]
        have hlen3 : (olds ++ news).length = (cap + n') * P.cellsOf e := by rw [← hrel.1, hlen2]
        obtain ⟨ρ', st2, hv2⟩ := zok st.mem (base := base) (es := P.cellsOf e) (n := cap + n') (cap := grownCap w (cap + n') cap e) (cells := cs.map C.toB ++ l') (t := e)
         (cs := (olds ++ news).toArray ++ Builtin.zeroCells z.cells (grownCap w (cap + n') cap e - (cap + n'))) hfr
         (by
          have : (((olds ++ news).toArray ++ Builtin.zeroCells z.cells (grownCap w (cap + n') cap e - (cap + n'))).toList.take (cs.map C.toB ++ l').length) = olds ++ news := by
           rw [hlen2, ← hlen3, Array.toList_append, List.take_append_of_le_length (qi _)]
           simp
           rw [List.take_of_length_le (by simp)]
          rw [this]; exact hrel)
         (by rw [g2, hlen2]; exact ki _ g1) (fun y hy => by
          rcases kg.1 hy with hy | hy
          ·obtain ⟨c, _, rfl⟩ := List.mem_map.1 hy
           cases c <;> rfl
          ·exact hclosed y hy) hpos g1 (by rw [hlen2]; exact ki _ g1) (by rw [g2]; exact qi _) (fr := (0, 0)) rfl
         (w' := w.drew.alloc (.cells ((olds ++ news).toArray ++ Builtin.zeroCells z.cells (grownCap w (cap + n') cap e - (cap + n'))) e)) rfl rfl rfl
        exact ⟨_, _, ρ', .inl (zc8 ho ha hat (by rw [hv]; exact hrun)), st.trans st2, hv2⟩
      ·exact Pr.fail_run h2
     ·exact Pr.fail_run h2
    ·exact Pr.fail_run h2
   ·exact Pr.fail_run h1
 ·exact Pr.fail_run h
end
end Go.Gm
