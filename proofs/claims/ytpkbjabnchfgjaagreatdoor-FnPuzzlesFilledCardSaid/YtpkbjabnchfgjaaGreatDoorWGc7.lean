import Derived.Test.YtpkbjabnchfgjaaGreatDoorWGc6
import Derived.Shelf.SlSortCmp.NoneTotal
import Derived.Shelf.Small.Wraps
namespace Go.Gm
open Go Go.Proofs Go.RowKit Go.Shelf Go.Lib
set_option linter.unusedVariables false
def cmpL : List Int → List Int → Int
 | [], [] => 0
 | [], _ :: _ => -1
 | _ :: _, [] => 1
 | x :: a, y :: b => if x < y then -1 else if y < x then 1 else cmpL a b
theorem zapj : ∀ a b : List Int, cmpL a b < 0 ↔ a < b
 | [], [] => by simp [cmpL]
 | [], y :: b => by simp [cmpL]
 | x :: a, [] => by simp [cmpL]
 | x :: a, y :: b => by
  unfold cmpL
  rw [List.cons_lt_cons_iff]
  by_cases h : x < y
  ·rw [if_pos h]
   exact ⟨fun _ => .inl h, fun _ => by omega⟩
  ·rw [if_neg h]
   by_cases h2 : y < x
   ·rw [if_pos h2]
    exact ⟨fun h => by omega, fun h => by omega⟩
   ·rw [if_neg h2, zapj a b]
    exact ⟨fun h3 => .inr ⟨by omega, h3⟩, fun h3 => h3.elim (fun h4 => absurd h4 h) fun h4 => h4.2⟩
def lsL (a b : List Int) : Bool := decide (cmpL a b < 0)
theorem zzm (a b : List Int) : lsL a b = true ↔ a < b := by unfold lsL; rw [decide_eq_true_iff, zapj]
theorem zto (a b : List Int) : lsL a b = false ↔ b ≤ a := by
 rw [Bool.eq_false_iff, ne_eq, zzm, List.not_lt]
theorem zbc5 (a b : List Int) : (!lsL b a || !lsL a b) = true := by
 cases h : lsL b a with
 | false => rfl
 | true =>
  cases h2 : lsL a b with
  | false => rfl
  | true => exact absurd (List.lt_trans ((zzm _ _).1 h) ((zzm _ _).1 h2)) (List.lt_irrefl b)
theorem zbc4 {α : Type} [Inhabited α] (f : α → List Int) : Sort.SWO (ltOf fun x y => cmpL (f x) (f y)) := by
 have h : ∀ x y, (ltOf fun x y => cmpL (f x) (f y)) x y = lsL (f x) (f y) := fun x y => rfl
 refine ⟨fun x => ?_, fun x y z h1 h2 => ?_, fun x y z h1 h2 => ?_⟩
 ·rw [h, zto]; exact List.le_refl _
 ·rw [h, zzm] at *; exact List.lt_trans h1 h2
 ·rw [h, zto] at *; exact List.le_trans h2 h1
def zj9 (l : List (List Int)) : List (List Int) := l.mergeSort fun a b => !lsL b a
theorem zmj {l m : List (List Int)} (h : m.Pairwise fun a b => lsL b a = false) (hp : m.Perm l) : m = zj9 l := by
 refine List.Perm.eq_of_pairwise (le := fun a b => lsL b a = false) (fun a b _ _ h1 h2 => List.le_antisymm ((zto _ _).1 h1) ((zto _ _).1 h2)) h ?_ (hp.trans (List.mergeSort_perm _ _).symm)
 have := List.pairwise_mergeSort (le := fun a b => !lsL b a) (fun a b c h1 h2 => by
  simp only [Bool.not_eq_true', zto] at *
  exact List.le_trans h1 h2) (fun a b => zbc5 a b) l
 exact this.imp fun h => by simpa using h
def LInt (W : World) (a : Option Addr) (xs : List Int) : Prop := xs = [] ∨ ∃ b o, a = some ⟨b, o, none⟩ ∧ ∀ i x, xs[i]? = some x → W.cell? ⟨b, o + i, none⟩ = some (.int .i64 x)
def zbe3 (P : Program) (g : Nat) : Prop := ∀ (a1 : Option Addr) (c1 : Nat) (a2 : Option Addr) (c2 : Nat) (xs ys : List Int) (W : World), xs.length ≤ 9223372036854775807 → ys.length ≤ 9223372036854775807 → LInt W a1 xs → LInt W a2 ys →
 Calls P g #[.slice a1 xs.length c1, .slice a2 ys.length c2] W fun e w' => e = .returned (.int .i64 (cmpL xs ys)) ∧ ∃ q, w' = W.drewN q
section
variable {α : Type} [Inhabited α]
theorem zacy (enc : α → Value) (w : World) (blk off m : Nat) (dk : Array α) (os : Array Obj) {k : Nat} (h : k ≠ blk) (hk : k < w.heap.size) : (sortWorld enc w blk off m dk os).heap[k]? = w.heap[k]? := by
 unfold sortWorld
 rw [Sort.heap_grow_old _ _ (by rw [Sort.size_putRow]; exact hk)]
 unfold Sort.putRow Sort.mapBlock
 simp only [Array.getElem?_modify, if_neg (Ne.symm h)]
 rfl
theorem zbev (enc : α → Value) (w : World) (blk off m : Nat) (dk : Array α) (os : Array Obj) {c : Array Value} {T : TypeId} {fr : Nat × Nat} (h : w.heap[blk]? = some (.cells c T fr)) : (sortWorld enc w blk off m dk os).heap[blk]? = some (.cells (Sort.putCells enc off dk c) T fr) := by
 unfold sortWorld
 have hk := (kc.1 h).1
 rw [Sort.heap_grow_old _ _ (by rw [Sort.size_putRow]; exact hk)]
 unfold Sort.putRow Sort.mapBlock
 simp only [Array.getElem?_modify, if_true, Sort.heap_ahead, h, Option.map_some]
 rfl
theorem zbew (enc : α → Value) (w : World) (blk off m : Nat) (dk : Array α) (os : Array Obj) : w.heap.size ≤ (sortWorld enc w blk off m dk os).heap.size := by
 unfold sortWorld
 show _ ≤ (_ ++ os).size
 rw [Array.size_append, Sort.size_putRow]
 exact Nat.le_add_right _ _
end
theorem zad9 {w : World} {ad : Addr} {v : Value} (h : w.cell? ad = some v) : ad.spot = none := by
 unfold World.cell? at h
 cases hs : ad.spot with
 | none => rfl
 | some k =>
  rw [hs] at h
  split at h <;> simp at h
def zpr (xs : List Int) : B := .ro xs.length (xs.flatMap (encC (.int .i64))) false true
theorem z1v (l : List (List Int)) : l.flatMap (encB (.list true (.int .i64))) = l.map zpr := by
 induction l with
 | nil => rfl
 | cons x l ih => rw [List.flatMap_cons, ih]; rfl
theorem zbjm (xs : List Int) : xs.flatMap (encC (.int .i64)) = xs.map fun z => C.v (.int .i64 z) := by
 induction xs with
 | nil => rfl
 | cons x l ih => rw [List.flatMap_cons, ih]; rfl
def Hd (w : World) (ρ : Rho) (R : Tab) : Type := { p : Value × List Int // RB w ρ R (zpr p.2) p.1 ∧ p.2.length ≤ 9223372036854775807 }
instance (w : World) (ρ : Rho) (R : Tab) : Inhabited (Hd w ρ R) := ⟨⟨(.slice none 0 0, []), ⟨none, 0, rfl, qi _, (fun h => by cases h), .inl rfl⟩, Nat.zero_le _⟩⟩
theorem Hd.list {w : World} {ρ : Rho} {R : Tab} (x : Hd w ρ R) : ∃ a cap, x.1.1 = .slice a x.1.2.length cap ∧ (x.1.2 = [] ∨ ∃ b o, a = some ⟨b, o, none⟩ ∧ (b < w.heap.size ∧ ¬ Own ρ R b) ∧ ∀ i z, x.1.2[i]? = some z → w.cell? ⟨b, o + i, none⟩ = some (.int .i64 z)) := by
 obtain ⟨⟨v, xs⟩, hx, hl⟩ := x
 obtain ⟨a, cap, e, hn, hex, hc⟩ := hx
 refine ⟨a, cap, e, ?_⟩
 by_cases h0 : xs = []
 ·exact .inl h0
 right
 rcases hc with hc | ⟨ad, ha, hs, hr⟩
 ·have hc : xs.map (fun z => C.v (.int .i64 z)) = [] := (zbjm xs).symm.trans hc
  rw [List.map_eq_nil_iff] at hc
  exact absurd hc h0
 ·have hr : ReadC w (fun l => zbw l w ρ R) ad (xs.map fun z => C.v (.int .i64 z)) := by rw [← zbjm]; exact hr
  have hrd : ∀ i z, xs[i]? = some z → w.cell? (ad.add i) = some (.int .i64 z) := fun i z hz => by
   obtain ⟨y, hy, hcy⟩ := hr i (.v (.int .i64 z)) (by rw [qn, hz]; rfl)
   rw [hy, show y = _ from hcy]
  have hsp : ad.spot = none := by
   obtain ⟨z, hz⟩ : ∃ z, xs[0]? = some z := ⟨_, qb (List.length_pos_iff.2 h0)⟩
   have := hrd 0 z hz
   exact zad9 (w := w) (ad := ad) (by simpa [Addr.add] using this)
  obtain ⟨b, o, sp⟩ := ad
  simp only at hsp
  subst hsp
  exact ⟨b, o, ha, hs.1, fun i z hz => by have := hrd i z hz; rwa [zoy] at this⟩
theorem z4r {P : Program} {f : FuncId} (hF : zfw P f) {ρr : Ren} (hf : ρr.f 6 = f) (L : SlLaysF.n6 P ρr) {g : FuncId} (eg : ∀ args w, (callFunc g args).run P w = .ok (.enter g args) w) (hC : zbe3 P g) :
  FOK P f ⟨[.one (.rw 0 0), .one (.fn g)], [.row 0 (.list true (.int .i64))]⟩ [⟨[], [.row 0 (.list true (.int .i64))]⟩]
   (fun v => if v.2.length < 4611686018427387904 ∧ v.2.all (fun l => decide (l.length ≤ 9223372036854775807)) = true then some ((), zj9 v.2) else none) := by
 rintro ⟨⟨⟨⟩, ⟨⟩⟩, (l : List (List Int))⟩ o h
 simp only at h
 split at h
 ·rename_i hb
  cases h
  obtain ⟨hlt, hall⟩ := hb
  have hlt : l.length < 4611686018427387904 := hlt
  have hall : ∀ x ∈ l, x.length ≤ 9223372036854775807 := fun x hx => by simpa using qt.1 hall x hx
  refine ⟨hF, fun w ρ vs hm hal hargs => ?_⟩
  obtain ⟨hlen, hargs⟩ := hargs
  have hR0 : zaf (FSh.tab ⟨[.one (.rw 0 0), .one (.fn g)], [.row 0 (.list true (.int .i64))]⟩ (((), ()), l)) = [.live ⟨0, 1, true, l.map zpr⟩] := by rw [← z1v]; rfl
  have hR1 : zaf (FOs.emb [⟨[], [.row 0 (.list true (.int .i64))]⟩] ((), zj9 l)).2 = [.live ⟨0, 1, true, (zj9 l).map zpr⟩] := by rw [← z1v]; rfl
  rw [hR0] at hm hargs ⊢
  rw [hR1]
  match vs, hlen with
  | [y, y1], _ =>
   have hy : RB w ρ [.live ⟨0, 1, true, l.map zpr⟩] (.rf 0 0 0 l.length) y := hargs 0 _ y rfl rfl
   have hy1 : y1 = .func (.func g) #[] #[] := hargs 1 _ y1 rfl rfl
   subst hy1
   obtain ⟨_, e, he, _, hrt⟩ := hy
   cases he
   obtain ⟨a, cap, rfl, hlc, _, _, hcl, hor⟩ := (hrt _ rfl).2 rfl
   rw [← hf]
   by_cases h0 : l = []
   ·subst h0
    refine Calls.mono (AnyF.slices_SortFunc_none { L with } a cap (.func (.func g) #[] #[]) w) fun e' w' h => ?_
    obtain ⟨rfl, rfl⟩ := h
    rw [show zj9 [] = [] by simp [zj9]]
    exact ⟨_, ρ, rfl, Step.refl hm, #[], rfl, ⟨rfl, fun i x y hx => by cases hx⟩⟩
   ·have hpos : 0 < l.length := List.length_pos_iff.2 h0
    obtain ⟨b, o, hgh, rfl, hbs⟩ : ∃ b o, ρ.gh 0 = some (b, o) ∧ a = some ⟨b, o + 0 * 1, none⟩ ∧ o + (0 + cap) * 1 ≤ bsz w b := by
     rcases hor with h1 | h1
     ·omega
     ·exact h1
    have hroot := (hm.roots 0 _ rfl).1
    rw [hgh] at hroot
    obtain ⟨c, T, fr, hblk, hfr, hsz, hcells⟩ := hroot
    simp only [km] at hsz
    have hown : Own ρ [.live ⟨0, 1, true, l.map zpr⟩] b := ⟨0, _, o, rfl, hgh⟩
    have hblt := (kc.1 hblk).1
    simp only [Nat.zero_mul, Nat.add_zero]
    let α := Hd w ρ [.live ⟨0, 1, true, l.map zpr⟩]
    have hcl' : ∀ (i : Nat) (hi : i < l.length), RB w ρ [.live ⟨0, 1, true, l.map zpr⟩] (zpr l[i]) (c[o + i]'(by omega)) := fun i hi => by
     obtain ⟨y, h1, h2⟩ := hcells i (zpr l[i]) (by simp [hi])
     rw [Array.getElem?_eq_getElem (by omega)] at h1
     cases h1
     exact h2
    let d : Array α := Array.ofFn (n := l.length) fun i => ⟨(c[o + i.1]'(by omega), l[i.1]), hcl' i.1 i.2, hall _ (List.getElem_mem _)⟩
    have hds : d.size = l.length := Array.size_ofFn
    have hdg : ∀ i (hi : i < l.length), (d[i]!).1 = (c[o + i]'(by omega), l[i]) := fun i hi => by
     rw [getElem!_pos d i (by omega)]
     exact congrArg Subtype.val (Array.getElem_ofFn (Nat.lt_of_lt_of_eq hi hds.symm))
    have hdl : d.toList.map (fun x : α => x.1.2) = l := by
     apply List.ext_getElem (by simp [hds])
     intro i h1 h2
     rw [List.getElem_map, Array.getElem_toList]
     exact congrArg (fun x : α => x.1.2) (Array.getElem_ofFn (Nat.lt_of_lt_of_eq h2 hds.symm))
    let enc : α → Value := fun x => x.1.1
    have h1c : OneCell enc := fun x => by
     obtain ⟨a, cap, e, _⟩ := x.list
     show x.1.1.oneCell' = true
     rw [e]; rfl
    have hH : Sort.Holds enc w b o d := fun j hj => by
     refine ⟨?_, zbcs hblk hfr _⟩
     rw [zax8 hblk]
     show _ = some (d[j]!).1.1
     rw [hdg j (by omega), Array.getElem?_eq_getElem (by omega)]
    have hcmp : CmpLays1 P g #[] enc (fun x y => cmpL x.1.2 y.1.2) b o d.size w := by
     intro m os dk hs x y
     have hli : ∀ z : α, ∃ a cap, z.1.1 = .slice a z.1.2.length cap ∧ LInt (sortWorld enc w b o m dk os) a z.1.2 := fun z => by
      obtain ⟨a, cap, e, h⟩ := z.list
      refine ⟨a, cap, e, h.imp id ?_⟩
      rintro ⟨b', o', rfl, ⟨hb1, hb2⟩, hc'⟩
      refine ⟨b', o', rfl, fun i v hv => ?_⟩
      rw [← hc' i v hv]
      refine zin (a := ⟨b', o' + i, none⟩) (zacy enc w b o m dk os ?_ hb1)
      rintro rfl
      exact hb2 hown
     obtain ⟨a1, c1, e1, l1⟩ := hli x
     obtain ⟨a2, c2, e2, l2⟩ := hli y
     have h := hC a1 c1 a2 c2 x.1.2 y.1.2 _ x.2.2 y.2.2 l1 l2
     rw [← e1, ← e2] at h
     refine Calls.mono h fun e' w' h => ?_
     obtain ⟨rfl, q, rfl⟩ := h
     exact ⟨rfl, q, #[], by rw [Sort.grow_empty]⟩
    have hw := Any.slices_SortFunc L enc h1c (fun x y : α => cmpL x.1.2 y.1.2) (zbc4 fun x : α => x.1.2) g #[] b o cap d w eg hcmp hH hblt (by omega)
    rw [hds] at hw
    refine Calls.mono hw fun e' w' h => ?_
    obtain ⟨rfl, d', n, os, hp, hs, rfl⟩ := h
    obtain ⟨hp1, _, hp2⟩ := hp
    have hsl : d'.toList.map (fun x : α => x.1.2) = zj9 l := by
     refine zmj ?_ ?_
     ·rw [List.pairwise_iff_getElem]
      intro i j hi hj hij
      simp only [km, Array.length_toList] at hi hj
      have := hs i j (Nat.zero_le _) hij (by omega)
      rw [getElem!_pos d' i (by omega), getElem!_pos d' j (by omega)] at this
      rw [List.getElem_map, List.getElem_map, Array.getElem_toList, Array.getElem_toList]
      exact this
     ·have e1 : d'.extract 0 l.length = d' := by rw [← hds, ← hp1]; exact Array.extract_size
      have e2 : d.extract 0 l.length = d := by rw [← hds]; exact Array.extract_size
      rw [e1, e2] at hp2
      have := hp2.map (fun x : α => x.1.2)
      rwa [hdl] at this
    have hd's : d'.size = l.length := by omega
    have hps : (Sort.putCells enc o d' c).size = c.size := by simp [Sort.putCells]
    have sp := Step.put hm (r := 0) (rt := ⟨0, 1, true, l.map zpr⟩) (rt' := ⟨0, 1, true, (zj9 l).map zpr⟩) rfl (b := b) (o := o) (o' := o) hgh (c := c) (c' := Sort.putCells enc o d' c) (T := T) (fr := fr) hblk hps (qi _)
     (fun _ => ⟨rfl, rfl, rfl, by simp only [km, ← hsl, Array.length_toList]; omega⟩) (by simp only [km, ← hsl, Array.length_toList]; omega) (by
      intro k x hx
      rw [← hsl, List.map_map, qn] at hx
      obtain ⟨z, hz, rfl⟩ := qf.1 hx
      obtain ⟨hk, hz⟩ := qh.1 hz
      have hk : k < l.length := by rw [Array.length_toList] at hk; omega
      refine ⟨z.1.1, ?_, z.2.1⟩
      unfold Sort.putCells
      rw [Array.getElem?_mapIdx, Array.getElem?_eq_getElem (by omega), Option.map_some, if_pos ⟨by omega, by omega⟩, show o + k - o = k by omega, getElem!_pos d' k (by omega)]
      rw [← hz]; rfl) (by
      intro _ x hx
      obtain ⟨z, _, rfl⟩ := List.mem_map.1 hx
      rfl)
    have so := Step.old sp.mem (w' := sortWorld enc w b o n d' os) (fun k hk => by
      rw [zt8] at hk
      by_cases hkb : k = b
      ·subst hkb
       rw [zbev enc w k o n d' os hblk, zdj hblt]
      ·rw [zacy enc w b o n d' os hkb hk, zjv (Ne.symm hkb)]) (by rw [zt8]; exact zbew _ _ _ _ _ _ _) rfl rfl
    exact ⟨_, _, rfl, sp.trans so, #[], rfl, ⟨rfl, fun i x y hx => by cases hx⟩⟩
 ·cases h
end Go.Gm
