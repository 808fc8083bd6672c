import Derived.Test.YtpkbjabnchfgjaaGreatDoorWGc8
import Derived.Shelf.Strconv.Itoa3
import Derived.Shelf.Strings.OnBuilder
import Derived.Shelf.Strings.Replace
import Derived.Lib.ReplaceLaws
namespace Go.Gm
open Go Go.Proofs Go.RowKit Go.Shelf Go.Lib
set_option linter.unusedVariables false
def strC (l : List (List UInt8)) : List B := l.flatMap (encB .str)
theorem zbes (l : List (List UInt8)) : strC l = l.map fun s => B.v (.string ⟨s.toArray⟩) := by
 unfold strC
 induction l with
 | nil => rfl
 | cons a l ih => rw [List.flatMap_cons, qu, ih]; rfl
theorem zafm {P : Program} {f : FuncId} (hF : zfw P f) {ρr : Ren} (hf : ρr.f 156 = f) (L : Lays.n156 P ρr) (X : Builder.Extra P ρr) :
  FOK P f ⟨[.one (.rw 0 0), .one .ss], [.row 0 .str]⟩ [⟨[.one .ss], [.row 0 .str]⟩]
   (fun v => if v.2.length ≤ 140737488355328 ∧ (Lib.join v.2 v.1.2).length ≤ 140737488355328 then some (Lib.join v.2 v.1.2, v.2) else none) := by
 rintro ⟨⟨⟨⟩, (sep : List UInt8)⟩, (xs : List (List UInt8))⟩ o h
 simp only at h
 split at h
 ·rename_i hb
  cases h
  obtain ⟨b1, b2⟩ := hb
  have b1 : xs.length ≤ 140737488355328 := b1
  have b2 : (Lib.join xs sep).length ≤ 140737488355328 := b2
  refine ⟨hF, fun w ρ vs hm hal hargs => ?_⟩
  have hm : Mem w ρ [.live ⟨0, 1, true, strC xs⟩] := hm
  have hargs : RVs w ρ [.live ⟨0, 1, true, strC xs⟩] [.g (.b (.rf 0 0 0 xs.length)), .g (.b (.v (.string ⟨sep.toArray⟩)))] vs := hargs
  obtain ⟨hlen, hargs⟩ := hargs
  match vs, hlen with
  | [y, y1], _ =>
   have hy := hargs 0 _ y rfl rfl
   have hy1 : y1 = .string ⟨sep.toArray⟩ := hargs 1 _ y1 rfl rfl
   subst hy1
   obtain ⟨_, e, he, _, hrt⟩ := hy
   cases he
   obtain ⟨_, hrf⟩ := hrt _ rfl
   obtain ⟨a, cap, rfl, hlc, _, _, hcl, hor⟩ := hrf rfl
   have fin : ∀ w', Below w.heap.size w w' → ∃ v ρ', Ending.returned (.string ⟨(Lib.join xs sep).toArray⟩) = Ending.returned v ∧ Step w ρ [.live ⟨0, 1, true, strC xs⟩] w' ρ' [.live ⟨0, 1, true, strC xs⟩] ∧ RV w' ρ' [.live ⟨0, 1, true, strC xs⟩] (.g (.b (.v (.string ⟨(Lib.join xs sep).toArray⟩)))) v :=
    fun w' hbl => ⟨_, ρ, rfl, Step.below hm hbl, rfl⟩
   match xs, hm, hlc, hcl, b1, b2, fin with
   | [], hm, hlc, hcl, b1, b2, fin =>
    have hw := Any.strings_Join_none L X a cap ⟨sep.toArray⟩ w
    rw [hf] at hw
    refine Calls.mono hw fun e' w' h => ?_
    obtain ⟨rfl, rfl⟩ := h
    exact fin _ (Below.refl _ _)
   | x :: r, hm, hlc, hcl, b1, b2, fin =>
    obtain ⟨b, o, hgh, rfl, hbs⟩ : ∃ b o, ρ.gh 0 = some (b, o) ∧ a = some ⟨b, o + 0 * 1, none⟩ ∧ o + (0 + cap) * 1 ≤ bsz w b := by
     rcases hor with h0 | h0
     ·simp only [qk] at hlc; omega
     ·exact h0
    have hroot := (hm.roots 0 _ rfl).1
    rw [hgh] at hroot
    obtain ⟨c, T, fr, hblk, hfr, hsz, hcells⟩ := hroot
    have hlt := (kc.1 hblk).1
    have hw := Any.strings_Join L X b (o + 0 * 1) cap ((x :: r).map fun s => ⟨s.toArray⟩) ⟨sep.toArray⟩ w (by
     intro j y hy
     rw [qn] at hy
     obtain ⟨z, hz, rfl⟩ := qf.1 hy
     obtain ⟨y, h1, h2⟩ := hcells j (B.v (.string ⟨z.toArray⟩)) (by simp only [zbes, qn, hz]; rfl)
     have h2 : y = .string ⟨z.toArray⟩ := h2
     subst h2
     simp only [World.cell?, hblk]
     rw [show o + 0 * 1 + j = o + j by omega]
     exact h1) hlt (by rw [km]; exact b1) (by rw [km]; exact hlc) (by
     rw [List.map_map, show ((fun x : ByteArray => x.data.toList) ∘ fun s : List UInt8 => (⟨s.toArray⟩ : ByteArray)) = id from funext fun s => by simp, List.map_id]
     simpa using b2)
    rw [hf, km] at hw
    refine Calls.mono hw fun e' w' h => ?_
    obtain ⟨rfl, hbl⟩ := h
    rw [List.map_map, show ((fun x : ByteArray => x.data.toList) ∘ fun s : List UInt8 => (⟨s.toArray⟩ : ByteArray)) = id from funext fun s => by simp, List.map_id]
    exact fin w' hbl
 ·cases h
theorem zpv {P : Program} {f : FuncId} (hF : zfw P f) {ρr : Ren} (hf : ρr.f 155 = f) (L : Lays.n155 P ρr) (X : Builder.Extra P ρr) (hg : ρr.g 1 ∈ zly) :
  FOK P f ⟨[.one .ss, .one .ss, .one .ss], []⟩ [⟨[.one .ss], []⟩]
   (fun v => if v.1.length < 4294967281 ∧ 1 ≤ v.2.1.length ∧ v.2.2.length ≤ v.2.1.length then some (Lib.replaceAll v.1 v.2.1 v.2.2) else none) := by
 rintro ⟨(s : List UInt8), (p : List UInt8), (q : List UInt8)⟩ o h
 simp only at h
 split at h
 ·rename_i hb
  cases h
  obtain ⟨b1, b2, b3⟩ := hb
  have b1 : s.length < 4294967281 := b1
  have b2 : 1 ≤ p.length := b2
  have b3 : q.length ≤ p.length := b3
  refine ⟨hF, fun w ρ vs hm hal hargs => ?_⟩
  have hm : Mem w ρ ([] : Tab) := hm
  have hargs : RVs w ρ ([] : Tab) [.g (.b (.v (.string ⟨s.toArray⟩))), .g (.b (.v (.string ⟨p.toArray⟩))), .g (.b (.v (.string ⟨q.toArray⟩)))] vs := hargs
  obtain ⟨hlen, hargs⟩ := hargs
  match vs, hlen with
  | [y, y1, y2], _ =>
   have hy : y = .string ⟨s.toArray⟩ := hargs 0 _ y rfl rfl
   have hy1 : y1 = .string ⟨p.toArray⟩ := hargs 1 _ y1 rfl rfl
   have hy2 : y2 = .string ⟨q.toArray⟩ := hargs 2 _ y2 rfl rfl
   subst hy hy1 hy2
   obtain ⟨m, hmx⟩ := hm.glob.1.1 _ hg
   have e1 : (⟨s.toArray⟩ : ByteArray).size = s.length := by show s.toArray.size = _; simp
   have e2 : (⟨p.toArray⟩ : ByteArray).size = p.length := by show p.toArray.size = _; simp
   have e3 : (⟨q.toArray⟩ : ByteArray).size = q.length := by show q.toArray.size = _; simp
   have hc := countB_mul_le ⟨p.toArray⟩ (by rw [e2]; exact b2) s.length ⟨s.toArray⟩ (by rw [e1]; exact qi _)
   have hc2 : countB ⟨s.toArray⟩ ⟨p.toArray⟩ * q.length ≤ countB ⟨s.toArray⟩ ⟨p.toArray⟩ * p.length := Nat.mul_le_mul_left _ b3
   rw [e1, e2] at hc
   have hw := Any.strings_ReplaceAll L X ⟨s.toArray⟩ ⟨p.toArray⟩ ⟨q.toArray⟩ m w (by rw [e1]; exact b1) hmx (by rw [e2]; exact b2) (by rw [e1, e3]; omega)
   rw [hf] at hw
   refine Calls.mono hw fun e' w' h => ?_
   obtain ⟨rfl, hbl⟩ := h
   exact ⟨_, ρ, rfl, Step.below hm hbl, rfl⟩
 ·cases h
end Go.Gm
