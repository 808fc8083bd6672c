import Derived.Test.YtpkbjabnchfgjaaGreatDoorWPx1
import Derived.ProofKit
import Derived.SizedLaws
import Derived.Lib.RowBridge
import Derived.WideKeyArgs
import Derived.RowKit
import Derived.OpenShut
namespace Go.Gm
set_option linter.unusedVariables false
set_option linter.unusedSimpArgs false
open Go.WideShapes Go.RowKit Go.ChangeShapes
def ztx (rec : TypeId → Option ETy) (P : Program) : List Field → Nat → Nat → Option ETy
 | [], _, _ => none
 | [f], o, n => if f.offset = o ∧ o + P.cellsOf f.type = n then match rec f.type with
  | some e => if sz e = P.cellsOf f.type then some e else none
  | none => none else none
 | f :: g :: t, o, n => if f.offset = o then match rec f.type, ztx rec P (g :: t) (o + P.cellsOf f.type) n with
  | some a, some b => if sz a = P.cellsOf f.type then some (.pair a b) else none
  | _, _ => none else none
def z3v (P : Program) : Nat → TypeId → Option ETy
 | 0, _ => none
 | n + 1, t => match P.underlying t with
  | some (.int k) => some (.int k)
  | some .bool => some .bool
  | some .string => some .str
  | some (.struct fs) => ztx (z3v P n) P fs.toList 0 (P.cellsOf t)
  | _ => none
def wfE : (e : ETy) → den e → Prop
 | .int k, z => (Lit.int k z).wf = true
 | .pair a b, x => wfE a x.1 ∧ wfE b x.2
 | _, _ => True
theorem zp4 : ∀ {e : ETy} (h : e.plain = true) (x : den e), (encV e x).length = sz e
 | .int _, _, _ => rfl
 | .bool, _, _ => rfl
 | .str, _, _ => rfl
 | .pair a b, h, x => by
  simp only [ETy.plain, qo] at h
  simp only [encV, ql, zp4 h.1, zp4 h.2, sz]
 | .list _ _, h, _ => by cases h
section
variable {H : Type} {enc : TypeId × Value → H} {P : Program} {w : World} {base : Nat} {spare : Nat → Bool} {held : Bool}
theorem zwl {rec : TypeId → Option ETy} {n : Nat} {cs : List Value} (hrec : ∀ t e cs x, rec t = some e → DataW.trod enc P w base spare held n t cs = some x → e.plain = true ∧ ∃ v : den e, cs = encV e v ∧ wfE e v) :
  ∀ (fs : List Field) (o : Nat) (e : ETy), ztx rec P fs o cs.length = some e → (∀ f ∈ fs, ∃ x, DataW.trod enc P w base spare held n f.type ((cs.drop f.offset).take (P.cellsOf f.type)) = some x) →
   e.plain = true ∧ ∃ v : den e, cs.drop o = encV e v ∧ wfE e v
 | [], o, e, h, _ => by cases h
 | [f], o, e, h, hf => by
  simp only [ztx] at h
  split at h
  ·rename_i hc
   split at h
   ·rename_i e' he'
    split at h
    ·rename_i hs
     cases h
     obtain ⟨x, hx⟩ := hf f (by simp)
     obtain ⟨hp, v, hv, hw⟩ := hrec _ _ _ _ he' hx
     refine ⟨hp, v, ?_, hw⟩
     rw [← hv, hc.1, List.take_of_length_le (by simp; omega)]
    ·cases h
   ·cases h
  ·cases h
 | f :: g :: t, o, e, h, hf => by
  simp only [ztx] at h
  split at h
  ·rename_i hc
   split at h
   ·rename_i a b ha hb
    split at h
    ·rename_i hs
     cases h
     obtain ⟨x, hx⟩ := hf f (by simp)
     obtain ⟨hp, v, hv, hw⟩ := hrec _ _ _ _ ha hx
     obtain ⟨hp2, v2, hv2, hw2⟩ := zwl hrec (g :: t) (o + P.cellsOf f.type) b hb (fun f' hf' => hf f' (qv _ hf'))
     refine ⟨by simp [ETy.plain, hp, hp2], (v, v2), ?_, hw, hw2⟩
     show cs.drop o = encV a v ++ encV b v2
     rw [← hv, ← hv2, hc, ← List.drop_drop, List.take_append_drop]
    ·cases h
   ·cases h
  ·cases h
theorem z3w : ∀ (m : Nat) {n : Nat} {t : TypeId} {e : ETy} {cs : List Value} {x : DataW H × List MemPlace}, z3v P m t = some e → DataW.trod enc P w base spare held n t cs = some x → e.plain = true ∧ ∃ v : den e, cs = encV e v ∧ wfE e v
 | 0, _, _, _, _, _, h, _ => by cases h
 | m + 1, n, t, e, cs, x, h, hx => by
  simp only [z3v] at h
  split at h
  ·rename_i k hu
   cases h
   obtain ⟨z, rfl, _, hw⟩ := DataW.trod_int hu hx
   exact ⟨rfl, z, rfl, hw⟩
  ·rename_i hu
   cases h
   obtain ⟨z, rfl, _⟩ := DataW.trod_bool hu hx
   exact ⟨rfl, z, rfl, trivial⟩
  ·rename_i hu
   cases h
   obtain ⟨s, rfl, _⟩ := DataW.trod_string hu hx
   exact ⟨rfl, s.data.toList, rfl, trivial⟩
  ·rename_i fs hu
   obtain ⟨xs, n', rfl, _, hlen, hl2, hf⟩ := DataW.trod_struct hu hx
   rw [← hlen] at h
   have := zwl (rec := z3v P m) (n := n') (cs := cs) (fun t e cs x h1 h2 => z3w m h1 h2) fs.toList 0 e h (fun f hm => by
    obtain ⟨i, hi, rfl⟩ := List.getElem_of_mem hm
    have hi' : i < fs.size := by simpa using hi
    have h1 := hf i (fs.toList[i]) (by simp)
    rw [h1]
    exact ⟨xs[i]'(by omega), qb _⟩)
   simpa using this
  ·cases h
def zapb (P : Program) (lo : Bool) (n : Nat) (t : TypeId) : Option Sh :=
 match P.underlying t with
 | some (.int k) => some (.si k)
 | some .bool => some .sb
 | some .string => some .ss
 | some (.slice e) => match z3v P n e with
  | some et => if sz et = P.cellsOf e ∧ 0 < P.bytesOf e then some (.sl et false lo) else none
  | none => none
 | _ => none
def zsr (P : Program) (lo : Bool) (m : Nat) : List Field → Nat → Nat → Option (List Sh)
 | [], o, n => if o = n then some [] else none
 | f :: t, o, n => if f.offset = o ∧ P.cellsOf f.type = 1 then match zapb P lo m f.type, zsr P lo m t (o + 1) n with
  | some a, some b => some (a :: b)
  | _, _ => none else none
def argT (P : Program) (lo : Bool) (m : Nat) (t : TypeId) : Option ASh :=
 match P.underlying t with
 | some (.struct fs) => (zsr P lo m fs.toList 0 (P.cellsOf t)).map .ag
 | _ => (zapb P lo m t).map .one
def Sh.small : (h : Sh) → h.den → Prop
 | .si k, z => (Lit.int k z).wf = true
 | .ss, l => l.length < 140737488355328
 | .sl e _ _, xs => xs.length < 140737488355328 ∧ ∀ x ∈ xs, wfE e x
 | _, _ => True
def zw1 {ι : Type} {den : ι → Type} (small : (a : ι) → den a → Prop) : (l : List ι) → Tup den l → Prop
 | [], _ => True
 | [a], v => small a v
 | a :: b :: t, v => small a v.1 ∧ zw1 small (b :: t) v.2
def ASh.small : (a : ASh) → a.den → Prop
 | .one h, v => h.small v
 | .ag l, v => zw1 Sh.small l v
 | _, _ => True
theorem zu6 {α : Type} {f : Nat → Option α} {n : Nat} {l : List α} (h : (List.range n).mapM f = some l) : l.length = n ∧ ∀ i, i < n → f i = l[i]? := by
 have h1 := mapM_some_length h
 refine ⟨by simpa using h1, fun i hi => ?_⟩
 exact mapM_some_get h i i (by simp [hi])
theorem zaeh {a : Addr} {n : Nat} {cs : List Value} (h : w.cells? base a n = some cs) : cs.length = n ∧ ∀ i, i < n → w.cell? (a.add i) = cs[i]? := by
 unfold World.cells? at h
 split at h
 ·exact zu6 h
 ·cases h
theorem znw : ∀ {e : ETy} (h : e.plain = true) (x : den e), encC e x = (encV e x).map C.v
 | .int _, _, _ => rfl
 | .bool, _, _ => rfl
 | .str, _, _ => rfl
 | .pair a b, h, x => by
  simp only [ETy.plain, qo] at h
  simp only [encC, encV, List.map_append, znw h.1, znw h.2]
 | .list _ _, h, _ => by cases h
theorem zaaz {e : ETy} (h : e.plain = true) : ∀ (xs : List (den e)) (i : Nat) (c : C), (xs.flatMap (encC e))[i]? = some c → ∃ j x, xs[j]? = some x ∧ j * sz e ≤ i ∧ i - j * sz e < sz e ∧ c = .v ((encV e x).getD (i - j * sz e) undef)
 | [], i, c, hc => by simp at hc
 | x :: xs, i, c, hc => by
  rw [List.flatMap_cons, znw h] at hc
  have hl := zp4 h x
  by_cases hi : i < sz e
  ·rw [kn (by simp; omega)] at hc
   simp only [qn, qf] at hc
   obtain ⟨y, hy, rfl⟩ := hc
   exact ⟨0, x, rfl, by omega, by omega, by simp [hy]⟩
  ·rw [kl (by simp; omega)] at hc
   simp only [km, hl] at hc
   obtain ⟨j, y, h1, h2, h3, h4⟩ := zaaz h xs _ _ hc
   refine ⟨j + 1, y, by simpa using h1, ?_, ?_, ?_⟩
   ·rw [Nat.add_mul]; omega
   ·rw [Nat.add_mul]; omega
   ·rw [h4]; congr 2; rw [Nat.add_mul]; omega
theorem zax7 {a : Addr} {x : Value} (h : w.cell? a = some x) : a.block < w.heap.size := by
 unfold World.cell? at h
 rcases Nat.lt_or_ge a.block w.heap.size with h1 | h1
 ·exact h1
 ·rw [Array.getElem?_eq_none h1] at h; cases h
theorem zaar {lo : Bool} {m n : Nat} {t : TypeId} {h : Sh} {cs : List Value} {x : DataW H × List MemPlace} {ρ : Rho} (hlo : lo = true → ∀ b, ¬ ρ.out b) (hc : zapb P lo m t = some h) (hx : DataW.trod enc P w 0 spare held n t cs = some x) (hsz : ∀ k ∈ x.1.weights P t, k ≤ reachBytes) :
  ∃ (v : h.den) (y : Value), cs = [y] ∧ (∀ c, y ≠ .agg c) ∧ RB w ρ [] (h.enc [] v).raw y ∧ h.small v := by
 unfold zapb at hc
 split at hc
 ·rename_i k hu
  cases hc
  obtain ⟨z, rfl, _, hw⟩ := DataW.trod_int hu hx
  exact ⟨z, _, rfl, (fun c h => by cases h), rfl, hw⟩
 ·rename_i hu
  cases hc
  obtain ⟨z, rfl, _⟩ := DataW.trod_bool hu hx
  exact ⟨z, _, rfl, (fun c h => by cases h), rfl, trivial⟩
 ·rename_i hu
  cases hc
  obtain ⟨s, rfl, rfl, _⟩ := DataW.trod_string hu hx
  refine ⟨s.data.toList, _, rfl, (fun c h => by cases h), ?_, ?_⟩
  ·show Value.string s = .string ⟨s.data.toList.toArray⟩
   simp
  ·have := hsz s.data.toList.length (by simp [DataW.weights])
   have h2 := reachBytes_lt
   show s.data.toList.length < 140737488355328
   omega
 ·rename_i e hu
  split at hc
  ·rename_i et he
   split at hc
   ·rename_i hs
    cases hc
    rcases DataW.trod_slice hu hx with ⟨rfl, rfl⟩ | ⟨a, len, cap, elems, rest, n', rfl, rfl, rfl, hb, hl, hm, hlen, hel, hsp, hns⟩
    ·exact ⟨[], _, rfl, (fun c h => by cases h), ⟨none, 0, rfl, qi _, (fun h => by cases h), .inl rfl⟩, by show (0 : Nat) < _; omega, fun x hx => by cases hx⟩
    ·-- each element
     have each : ∀ i, i < len → et.plain = true ∧ ∃ v : den et, wfE et v ∧ ∀ j, j < sz et → w.cell? (a.add (i * sz et + j)) = some ((encV et v).getD j undef) := by
      intro i hi
      have h1 := hel i hi
      rw [qb (by omega)] at h1
      obtain ⟨ci, hci, hti⟩ := qx.1 h1
      obtain ⟨hp, v, hv, hw⟩ := z3w m he hti
      refine ⟨hp, v, hw, fun j hj => ?_⟩
      obtain ⟨g1, g2⟩ := zaeh hci
      have := g2 j (by omega)
      rw [zsi, ← hs.1] at this
      rw [this, hv, qg]
      have hl' := zp4 hp v
      rw [qb (by omega)]
      rfl
     by_cases h0 : len = 0
     ·subst h0
      exact ⟨[], _, rfl, (fun c h => by cases h), ⟨some a, cap, rfl, hl, (fun h => by cases h), .inl rfl⟩, by show (0 : Nat) < _; omega, fun x hx => by cases hx⟩
     have hp : et.plain = true := (each 0 (by omega)).1
     have : ∃ vs : List (den et), vs.length = len ∧ ∀ i v, vs[i]? = some v → wfE et v ∧ ∀ j, j < sz et → w.cell? (a.add (i * sz et + j)) = some ((encV et v).getD j undef) := by
      have gen : ∀ k, k ≤ len → ∃ vs : List (den et), vs.length = k ∧ ∀ i v, vs[i]? = some v → wfE et v ∧ ∀ j, j < sz et → w.cell? (a.add (i * sz et + j)) = some ((encV et v).getD j undef) := by
       intro k
       induction k with
       | zero => intro _; exact ⟨[], rfl, fun i v h => by simp at h⟩
       | succ k ih =>
        intro hk
        obtain ⟨vs, h1, h2⟩ := ih (by omega)
        obtain ⟨_, v, hv⟩ := each k (by omega)
        refine ⟨vs ++ [v], by simp [h1], fun i u hu => ?_⟩
        by_cases hi : i < vs.length
        ·rw [kn hi] at hu
         exact h2 i u hu
        ·rw [kl (by omega)] at hu
         have : i - vs.length = 0 := by
          have := (qh.1 hu).1
          simpa using this
         rw [this] at hu
         simp only [kk, qc] at hu
         subst hu
         have : i = k := by omega
         subst this
         exact hv
      exact gen len (qi _)
     obtain ⟨vs, hvl, hvs⟩ := this
     have hblk : a.block < w.heap.size := by
      have hz := zpp et
      obtain ⟨_, hc0⟩ := hvs 0 (vs[0]'(by omega)) (qb _)
      have := zax7 (hc0 0 hz)
      rwa [zg6] at this
     refine ⟨vs, _, rfl, (fun c h => by cases h), ⟨some a, cap, by rw [hvl], by omega, (fun h => by cases h), .inr ⟨a, rfl, ⟨⟨hblk, ?_⟩, fun h => hlo h _⟩, ?_⟩⟩, ?_, ?_⟩
     ·rintro ⟨r, rt, o, hr, _⟩
      simp at hr
     ·intro i c hi
      obtain ⟨j, y, h1, h2, h3, h4⟩ := zaaz hp vs i c hi
      obtain ⟨_, hc⟩ := hvs j y h1
      have := hc (i - j * sz et) h3
      rw [show j * sz et + (i - j * sz et) = i by omega] at this
      exact ⟨_, this, by rw [h4]; rfl⟩
     ·have hwt := hsz ((elems.length + rest.length) * P.bytesOf e) (by simp [DataW.weights, hu])
      have h2 := reachBytes_lt
      have : len ≤ (elems.length + rest.length) * P.bytesOf e := by
       rw [← hlen]
       exact Nat.le_trans (Nat.le_add_right _ rest.length) (Nat.le_mul_of_pos_right _ hs.2)
      show vs.length < 140737488355328
      omega
     ·intro y hy
      obtain ⟨i, hi, rfl⟩ := List.getElem_of_mem hy
      exact (hvs i _ (qb hi)).1
   ·cases hc
  ·cases hc
 ·cases hc
end
end Go.Gm
