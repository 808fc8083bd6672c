import Derived.Test.YtpkbjabnchfgjaaGreatDoorWGc2
import Derived.Deep.RegionLaw
import Derived.Deep.LoopGhost
import Derived.Lib.SlicesDelete
import Derived.Sort.WalkB12
namespace Go.Gm
open Go Go.Proofs Go.RowKit Go.Shelf Go.Lib
set_option linter.unusedVariables false
theorem zer {b : Nat} {T : TypeId} {fr : Nat × Nat} : ∀ (vs : List Value) (o : Nat) (c : Array Value) (w : World), w.heap[b]? = some (.cells c T fr) → w.setCells b o vs = setB w b (.cells (ovr c o vs) T fr)
 | [], o, c, w, hb => by
  obtain ⟨hlt, h⟩ := kc.1 hb
  simp only [World.setCells, ovr, setB]
  have e : w.heap.setIfInBounds b (.cells c T fr) = w.heap := by
   apply Array.ext_getElem?
   intro j
   rw [Array.getElem?_setIfInBounds]
   split
   ·rename_i e; subst e; simp [hlt, h]
   ·rfl
  rw [e]
 | v :: vs, o, c, w, hb => by
  have hlt := (kc.1 hb).1
  have e1 : w.setCell ⟨b, o, none⟩ v = setB w b (.cells (c.setIfInBounds o v) T fr) := by
   simp only [World.setCell, setB]
   congr 1
   apply Array.ext_getElem?
   intro j
   rw [Array.getElem?_modify, Array.getElem?_setIfInBounds]
   split
   ·rename_i e; subst e; rw [hb]; simp
   ·rfl
  simp only [World.setCells, ovr]
  rw [e1, zer vs (o + 1) (c.setIfInBounds o v) _ (zdj hlt)]
  simp only [setB]
  congr 1
  apply Array.ext_getElem?
  intro j
  simp only [Array.getElem?_setIfInBounds, Array.size_setIfInBounds]
  split <;> rfl
section
variable {P : Program} {ρ : Ren}
set_option maxHeartbeats 4000000 in
set_option maxRecDepth 1000000 in
theorem z7d (L : SlLaysE0.n45 P ρ) (a23 : ∀ w, (isAgg (ρ.t 23)).run P w = .ok false w) (z23 : ∀ w, (Go.sizeOf (ρ.t 23)).run P w = .ok 1 w) (v23 : ∀ w, (zeroValue (ρ.t 23)).run P w = .ok (.int .i64 0) w) (i0 : TypeInfo) (hi0 : P.info? (ρ.t 23) = some i0) (hz1 : i0.size = 1)
  (blk off cap i j n : Nat) (news : List Value) (w : World) (hn : n ≤ 4611686018427387904) (hcap : n ≤ cap) (hij : i < j) (hj : j ≤ n) (hnl : news.length = n - j) (h1 : ∀ u ∈ news, u.oneCell' = true)
  {c : Array Value} {T : TypeId} {fr : Nat × Nat} (hb : w.heap[blk]? = some (.cells c T fr)) (hfr : unfrz fr c.size) (hsz : off + n ≤ c.size) (hget : ∀ t u, news[t]? = some u → c[off + j + t]? = some u) :
  Calls P (ρ.f 45) #[.slice (some ⟨blk, off, none⟩) n cap, .int .i64 i, .int .i64 j] w fun e w' => e = .returned (.slice (some ⟨blk, off, none⟩) (n - (j - i)) cap) ∧ w' = setB w.drew blk (.cells (ovr (ovr c (off + i) news) (off + (i + (n - j))) (List.replicate (j - i) (.int .i64 0))) T fr) := by
 have mixed := L.mixed; have t0 := L.t0; have a0 := L.a0; have z0 := L.z0; have v0 := L.v0; have t3 := L.t3; have a3 := L.a3; have z3 := L.z3; have v3 := L.v3; have t4 := L.t4; have a4 := L.a4; have z4 := L.z4; have v4 := L.v4; have t22 := L.t22; have a22 := L.a22; have z22 := L.z22; have v22 := L.v22
 obtain ⟨A, hA, hsrc⟩ : ∃ A : Addr, (if cap = j then some (⟨blk, off, none⟩ : Addr) else some ⟨blk, off + j, none⟩) = some A ∧ Hid (∀ t u, news[t]? = some u → w.drew.cell? (A.add t) = some u) := by
  by_cases h : cap = j
  ·refine ⟨⟨blk, off, none⟩, by simp [h], fun t u hu => ?_⟩
   have h0 : news.length = 0 := by rw [hnl]; omega
   rw [List.length_eq_zero_iff.1 h0] at hu
   simp at hu
  ·refine ⟨⟨blk, off + j, none⟩, by simp [h], fun t u hu => ?_⟩
   rw [Addr.add_lit]
   show (match w.heap[blk]? with | some (.cells c _ _) => if (none : Option Nat).isSome then none else c[off + j + t]? | _ => none) = some u
   rw [hb]
   exact hget t u hu
 have s1 : Hid (news.length = (n - j) * 1) := by rw [Nat.mul_one]; exact hnl
 have s2 : Hid (∀ u ∈ news, u.oneCell' = true) := h1
 have s3 : Hid (∀ t, t < news.length → (w.drew.cell? ⟨blk, off + i * 1 + t, none⟩).isSome = true ∧ w.drew.frozen? ⟨blk, off + i * 1 + t, none⟩ = false) := by
  intro t ht
  rw [hnl] at ht
  rw [Nat.mul_one, Nat.add_assoc]
  have hc : w.drew.cell? ⟨blk, off + (i + t), none⟩ = c[off + (i + t)]? := by
   show (match w.heap[blk]? with | some (.cells c _ _) => if (none : Option Nat).isSome then none else c[off + (i + t)]? | _ => none) = _
   rw [hb]; rfl
  have hf : w.drew.frozen? ⟨blk, off + (i + t), none⟩ = false := by
   show (match w.heap[blk]? with | some (.cells _ _ (lo, hi)) => lo ≤ off + (i + t) && off + (i + t) < hi | _ => false) = false
   rw [hb]
   have := hfr.at (off + (i + t))
   obtain ⟨lo, hi⟩ := fr
   simp only at this ⊢
   rw [Bool.eq_false_iff]
   intro h
   simp only [qo, kf] at h
   exact this h
  rw [hc, Array.getElem?_eq_getElem (by omega)]
  exact ⟨rfl, hf⟩
 obtain ⟨W1, hW1⟩ : ∃ W1, W1 = w.drew.setCells blk (off + i * 1) news := ⟨_, rfl⟩
 have hcl : ∀ ty, (Builtin.clear_ #[ρ.t 22] ty #[.slice (some ⟨blk, off + (i + (n - j)), none⟩) (n - (i + (n - j))) (cap - (i + (n - j)))]).run P W1 = .ok (.tuple #[]) (W1.setCells blk (off + (i + (n - j))) (List.replicate (n - (i + (n - j))) (.int .i64 0))) := by
  intro ty
  refine Lib.run_clear_slice W1 _ _ ty _ t22 v23 rfl rfl blk (off + (i + (n - j))) _ _ (by omega) (fun t ht => ?_) (fun t ht => ?_)
  ·rw [hW1, zer news _ c w.drew hb]
   have hlt := (kc.1 hb).1
   show ((match (setB w.drew blk _).heap[blk]? with | some (.cells c _ _) => if (none : Option Nat).isSome then none else c[off + (i + (n - j)) + t]? | _ => none) : Option Value).isSome = true
   rw [zdj (w := w.drew) hlt]
   simp only [Option.isSome_none, qj, if_false]
   rw [Array.getElem?_eq_getElem (by rw [zab9]; omega)]
   rfl
  ·rw [hW1, zer news _ c w.drew hb]
   have hlt := (kc.1 hb).1
   show (match (setB w.drew blk _).heap[blk]? with | some (.cells _ _ (lo, hi)) => lo ≤ off + (i + (n - j)) + t && off + (i + (n - j)) + t < hi | _ => false) = false
   rw [zdj (w := w.drew) hlt]
   have := hfr.at (off + (i + (n - j)) + t)
   obtain ⟨lo, hi⟩ := fr
   simp only at this ⊢
   rw [Bool.eq_false_iff]
   intro h
   simp only [qo, kf] at h
   exact this h
 have hW : Hid (W1 = w.drew.setCells blk (off + i * 1) news) := hW1
 have hic : i ≤ cap := by omega
 have hjc : j ≤ cap := by omega
 have X : Aside (w.heap[blk]? = some (.cells c T fr)) := hb
 have hlt : Hid (blk < w.heap.size) := (kc.1 hb).1
 clear hW1 hget hnl hb hfr
 obtain ⟨_, _, FG⟩ := L.f45
 go_enter FG, SlBodyN.n45_ntmps ρ
 go_wp2_with fail
 go_region_law_o (refine step_append_room rfl (.tmp 22) (.tmp 25) (ρ.t 22) rfl (ρ.t 23) i0 1 t22 hi0 hz1 blk off i cap (by simp [Act.eval, Act.put]) A (n - j) (cap - j) news (by simp [Act.eval, Act.put]) s1.out hsrc.out s2.out (by omega) s3.out ?_; rw [← hW.out])
 go_wp2
 go_ret
 refine ⟨by rw [show n - (j - i) = i + (n - j) by omega]; rfl, ?_⟩
 rw [hW.out, Nat.mul_one, show n - (i + (n - j)) = j - i by omega, zer news _ c w.drew X.out, zer _ _ (ovr c (off + i) news) _ (zdj (w := w.drew) hlt.out)]
 simp only [setB]
 congr 1
 apply Array.ext_getElem?
 intro k
 simp only [Array.getElem?_setIfInBounds, Array.size_setIfInBounds]
 split <;> rfl
end
def intC (l : List Int) : List B := l.flatMap (encB (.int .i64))
theorem ztk (l : List Int) : intC l = l.map fun z => B.v (.int .i64 z) := by
 unfold intC
 induction l with
 | nil => rfl
 | cons x t ih => rw [List.flatMap_cons, ih]; rfl
theorem zapq {P : Program} {f : FuncId} (hF : zfw P f) {ρr : Ren} (hf : ρr.f 45 = f) (L : SlLaysE0.n45 P ρr) (a23 : ∀ w, (isAgg (ρr.t 23)).run P w = .ok false w) (z23 : ∀ w, (Go.sizeOf (ρr.t 23)).run P w = .ok 1 w) (v23 : ∀ w, (zeroValue (ρr.t 23)).run P w = .ok (.int .i64 0) w) (i0 : TypeInfo) (hi0 : P.info? (ρr.t 23) = some i0) (hz1 : i0.size = 1) :
  FOK P f ⟨[.one (.rw 0 0), .one (.si .i64), .one (.si .i64)], [.row 0 (.int .i64)]⟩ [⟨[.one (.rw 0 0)], [.row 0 (.int .i64)]⟩]
   (fun v => if 0 ≤ v.1.2.1 ∧ v.1.2.1 < v.1.2.2 ∧ v.1.2.2 ≤ (v.2.length : Int) ∧ v.2.length ≤ 4611686018427387904 then some ((), v.2.take v.1.2.1.toNat ++ v.2.drop v.1.2.2.toNat) else none) := by
 rintro ⟨⟨⟨⟩, (i' : Int), (j' : Int)⟩, (l : List Int)⟩ o h
 simp only at h
 split at h
 ·rename_i hb
  cases h
  obtain ⟨b1, b2, b3, b4⟩ := hb
  have b1 : 0 ≤ i' := b1
  have b2 : i' < j' := b2
  have b3 : j' ≤ (l.length : Int) := b3
  have b4 : l.length ≤ 4611686018427387904 := b4
  obtain ⟨i, rfl⟩ := Int.eq_ofNat_of_zero_le b1
  obtain ⟨j, rfl⟩ := Int.eq_ofNat_of_zero_le (show 0 ≤ j' by omega)
  have hij : i < j := by omega
  have hj : j ≤ l.length := by omega
  simp only [qe] at *
  refine ⟨hF, fun w ρ vs hm hal hargs => ?_⟩
  have hm : Mem w ρ [.live ⟨0, 1, true, intC l⟩] := hm
  have hargs : RVs w ρ [.live ⟨0, 1, true, intC l⟩] [.g (.b (.rf 0 0 0 l.length)), .g (.b (.v (.int .i64 i))), .g (.b (.v (.int .i64 j)))] vs := hargs
  obtain ⟨hlen, hargs⟩ := hargs
  match vs, hlen with
  | [y, y1, y2], _ =>
   have hy := hargs 0 _ y rfl rfl
   have hy1 : y1 = .int .i64 i := hargs 1 _ y1 rfl rfl
   have hy2 : y2 = .int .i64 j := hargs 2 _ y2 rfl rfl
   subst hy1 hy2
   obtain ⟨_, e, he, _, hrt⟩ := hy
   cases he
   obtain ⟨_, hrf⟩ := hrt _ rfl
   obtain ⟨a, cap, rfl, hlc, _, _, hcl, hor⟩ := hrf rfl
   obtain ⟨b, o, hgh, rfl, hbs⟩ : ∃ b o, ρ.gh 0 = some (b, o) ∧ a = some ⟨b, o + 0 * 1, none⟩ ∧ o + (0 + cap) * 1 ≤ bsz w b := by
    rcases hor with h0 | h0
    ·omega
    ·exact h0
   have hroot := (hm.roots 0 _ rfl).1
   rw [hgh] at hroot
   obtain ⟨c, T, fr, hblk, hfr, hsz, hcells⟩ := hroot
   have hil : (intC l).length = l.length := by rw [ztk]; simp
   simp only [hil] at hsz
   have hc : ∀ k (hk : k < l.length), c[o + k]? = some (.int .i64 l[k]) := by
    intro k hk
    obtain ⟨y, h1, h2⟩ := hcells k (B.v (.int .i64 l[k])) (by simp only [ztk]; simp [hk])
    rw [h1]; exact congrArg some h2
   have hw := z7d L a23 z23 v23 i0 hi0 hz1 b o cap i j l.length ((l.drop j).map (Value.int .i64)) w b4 hlc hij hj (by simp) (by intro u hu; obtain ⟨z, _, rfl⟩ := List.mem_map.1 hu; rfl) hblk hfr (by omega) (by
    intro t u hu
    rw [qn, List.getElem?_drop] at hu
    obtain ⟨z, hz, rfl⟩ := qf.1 hu
    obtain ⟨hlt, rfl⟩ := qh.1 hz
    rw [Nat.add_assoc]; exact hc (j + t) hlt)
   rw [hf] at hw
   have e0 : o + 0 * 1 = o := by omega
   simp only [e0]
   refine Calls.mono hw fun e' w' h => ?_
   obtain ⟨rfl, rfl⟩ := h
   have sd : Step w ρ [.live ⟨0, 1, true, intC l⟩] w.drew ρ [.live ⟨0, 1, true, intC l⟩] := by
    have hext := Ext.draw w ρ [.live ⟨0, 1, true, intC l⟩] w.drew rfl
    exact ⟨hext, ⟨fun r rt h => zba hext rfl (fun b o hbo => rfl) (hm.roots r rt h), hm.dist, hm.apart, hm.outlt, hm.globE hext⟩, rfl, rfl, qi _, fun b h => .inl h⟩
   have hl' : (l.take i ++ l.drop j).length = i + (l.length - j) := by rw [ql, kp, kb]; omega
   have hil' : (intC (l.take i ++ l.drop j)).length = i + (l.length - j) := by rw [ztk, km, hl']
   have sp := Step.put (w := w.drew) sd.mem (r := 0) (rt := ⟨0, 1, true, intC l⟩) (rt' := ⟨0, 1, true, intC (l.take i ++ l.drop j)⟩) rfl (b := b) (o := o) (o' := o) hgh
    (c := c) (c' := ovr (ovr c (o + i) ((l.drop j).map (Value.int .i64))) (o + (i + (l.length - j))) (List.replicate (j - i) (.int .i64 0))) (T := T) (fr := fr) hblk (by simp) (qi _)
    (fun _ => ⟨rfl, rfl, rfl, by rw [hil, hil']; omega⟩) (by simp only [hil']; omega) (by
     intro k x hx
     simp only [ztk, qn] at hx
     obtain ⟨z, hz, rfl⟩ := qf.1 hx
     have hk : k < i + (l.length - j) := by rw [← hl']; exact (qh.1 hz).1
     refine ⟨.int .i64 z, ?_, rfl⟩
     rw [zk5 _ _ _ _ (by simp; omega), if_neg (by omega), zk5 _ _ _ _ (by simp; omega)]
     by_cases hki : k < i
     ·rw [if_neg (by omega), hc k (by omega)]
      rw [kn (by simp; omega), List.getElem?_take, if_pos hki, qb (by omega)] at hz
      cases hz; rfl
     ·rw [if_pos (by simp; omega), qn, show o + k - (o + i) = k - i by omega]
      rw [kl (by simp; omega), kp, Nat.min_eq_left (by omega)] at hz
      rw [hz]; rfl) (by
     intro _ x hx
     simp only [ztk, List.mem_map] at hx
     obtain ⟨z, _, rfl⟩ := hx
     rfl)
   have st := sd.trans sp
   refine ⟨_, _, rfl, st, ?_⟩
   show RB _ _ _ (.rf 0 0 0 (l.take i ++ l.drop j).length) _
   rw [hl', show l.length - (j - i) = i + (l.length - j) by omega]
   refine ⟨⟨_, _, rfl⟩, .live ⟨0, 1, true, intC (l.take i ++ l.drop j)⟩, rfl, (fun h => by cases h), fun rt hrt => ?_⟩
   cases hrt
   refine ⟨qi _, fun _ => ⟨_, cap, rfl, by omega, Nat.zero_lt_one, rfl, by simp only [hil']; omega, .inr ⟨b, o, za1 _ _ _, by simp, ?_⟩⟩⟩
   have hlt := (kc.1 hblk).1
   have e1 : bsz (setB w.drew b (.cells (ovr (ovr c (o + i) ((l.drop j).map (Value.int .i64))) (o + (i + (l.length - j))) (List.replicate (j - i) (.int .i64 0))) T fr)) b = bsz w b := by
    unfold bsz
    rw [zdj (w := w.drew) hlt, hblk]; simp
   rw [e1]; exact hbs
 ·cases h
end Go.Gm
