/- slices.Insert of one element at []int, as the interpreter tells it. -/
import Derived.Test.YtppalpflejcjeaaGc3
import Derived.Shelf.Spec.SlicesInsertGrow
namespace Go.Gm
open Go Go.Proofs Go.RowKit Go.Shelf Go.Lib
set_option linter.unusedVariables false
variable {P : Program} {ρ : Ren}
set_option maxHeartbeats 4000000 in
set_option maxRecDepth 1000000 in
/-- slices.Insert of one value ahead of some element, where there is room: the cells from there on are moved. -/
theorem insert_room (L : Lays2.n21 P ρ) (b off n c i vb voff vc : Nat) (cs : List Value) (x : Value) (w : World) (hi : i < n) (hroom : n + 1 ≤ c) (hn : n ≤ 4611686018427387904) (hvb : vb ≠ b) (hcl : cs.length = n)
    (hcs : ∀ j v, cs[j]? = some v → w.cell? ⟨b, off + j, none⟩ = some v) (hsp : ∀ j, j < n + 1 → (w.cell? ⟨b, off + j, none⟩).isSome = true) (hfz : ∀ j, j < n + 1 → w.frozen? ⟨b, off + j, none⟩ = false)
    (hx : w.cell? ⟨vb, voff, none⟩ = some x) (h1c : ∀ v ∈ cs, v.oneCell' = true) (h1x : x.oneCell' = true)
    (tA tB : TypeId) (kA kB : Nat) (hsa : w.shape? vb = some (tA, kA)) (hsb : w.shape? b = some (tB, kB)) (hkB : kB ≠ 0) (hfa : w.frozen? ⟨vb, voff, none⟩ = false) (hfe : w.frozen? ⟨vb, kA, none⟩ = false) :
    Calls P (ρ.f 21) #[.slice (some ⟨b, off, none⟩) n c, .int .i64 i, .slice (some ⟨vb, voff, none⟩) 1 vc] w fun e w' =>
      e = .returned (.slice (some ⟨b, off, none⟩) (n + 1) c) ∧ w' = (w.drew.setCells b (off + (i + 1)) (cs.drop i)).setCells b (off + i) [x] := by
  have mixed := L.mixed
  have t0 := L.t0; have a0 := L.a0; have z0 := L.z0; have v0 := L.v0; have t3 := L.t3; have a3 := L.a3; have z3 := L.z3; have v3 := L.v3; have t4 := L.t4; have a4 := L.a4; have z4 := L.z4; have v4 := L.v4; have t22 := L.t22; have a22 := L.a22; have z22 := L.z22; have v22 := L.v22
  have u0 := run_underlying L.t0; have u3 := run_underlying L.t3; have u4 := run_underlying L.t4; have u22 := run_underlying L.t22
  have hdl : (cs.drop i).length = n - i := by rw [List.length_drop, hcl]
  have hz1 : ¬ ((1 : Int) = 0) := by omega
  have hz2 : ¬ ((i : Int) = (n : Int)) := by omega
  have hw1 : IntKind.i64.wrap ((i : Int) + 1) = (i : Int) + 1 := by rw [IntKind.wrap_i64]; omega
  have hb1 : (0 : Int) ≤ (i : Int) + 1 := by omega
  have htn : ((i : Int) + 1).toNat = i + 1 := by omega
  have hin : i ≤ n := by omega
  have hb2 : ¬ (c = i + 1) := by omega
  have hb3 : (i : Int) ≤ (n : Int) + 1 := by omega
  have hb4 : ¬ (c = i) := by omega
  have hsz : (P.info? (ρ.t 3)).map (·.size) = some 1 := by
    obtain ⟨i0, hi0, h0, h1, h2⟩ := info_parts L.i3
    rw [hi0]; simp [h1]
  have hov : ∀ lb cb, (callFunc (ρ.f 27) #[.slice (some ⟨vb, voff, none⟩) 1 vc, .slice (some ⟨b, off + (i + 1), none⟩) lb cb]).run P w = .ok (.value (.bool false)) w := fun lb cb => by
    rw [run_callFunc_extern L.f27 (by kernel_rfl) (by kernel_rfl) (by kernel_rfl) (e := Extern.SlicesOverlaps.overlaps #[(ρ.t 22), (ρ.t 22)] #[(ρ.t 4)]) (by kernel_rfl),
      Lib.run_overlaps_apart w (ρ.t 22) (ρ.t 4) (ρ.t 3) L.t22 1 L.z3 ⟨vb, voff, none⟩ ⟨b, off + (i + 1), none⟩ 1 vc lb cb hvb tA tB kA kB hsa hsb hkB hfa hfe]
    rfl
  obtain ⟨W1, hW1⟩ : ∃ W1, W1 = w.drew.setCells b (off + (i + 1)) (cs.drop i) := ⟨_, rfl⟩
  have hsp1 : ∀ k, k < n + 1 → (W1.cell? ⟨b, off + k, none⟩).isSome = true := fun k hk => by
    rw [hW1]; exact isSome_setCells b _ _ _ (fun j hj => by rw [Nat.add_assoc]; exact hsp _ (by omega)) _ (hsp k hk)
  have hc1 : ∀ ty dc sc, (Builtin.copy_ #[ρ.t 22, ρ.t 22] ty #[.slice (some ⟨b, off + (i + 1), none⟩) (n - i) dc, .slice (some ⟨b, off + i, none⟩) (n + 1 - i) sc]).run P w.drew = .ok (goInt (cs.drop i).length) W1 := fun ty dc sc => by
    rw [hW1]
    refine run_copy_cells w.drew _ _ ty (ρ.t 3) b (off + (i + 1)) (n - i) dc ⟨b, off + i, none⟩ (n + 1 - i) sc (cs.drop i) L.t22 hsz (by rw [hdl]; simp only [Nat.min_def]; split <;> omega) (fun j v hj => ?_) (fun j hj => ?_) (fun j hj => ?_) (fun v hv => h1c v (List.mem_of_mem_drop hv))
    · rw [Addr.add_lit, Nat.add_assoc]; exact hcs (i + j) v (by rwa [List.getElem?_drop] at hj)
    · rw [Nat.add_assoc]; exact hsp _ (by omega)
    · rw [Nat.add_assoc]; exact hfz _ (by omega)
  have hc2 : ∀ (W : World), (∀ x, W.cell? x = W1.cell? x) → (∀ x, W.frozen? x = W1.frozen? x) → ∀ ty dc, (Builtin.copy_ #[ρ.t 22, ρ.t 22] ty #[.slice (some ⟨b, off + i, none⟩) (n + 1 - i) dc, .slice (some ⟨vb, voff, none⟩) 1 vc]).run P W = .ok (goInt 1) (W.setCells b (off + i) [x]) := fun W hWc hWf ty dc => by
    refine run_copy_cells W _ _ ty (ρ.t 3) b (off + i) (n + 1 - i) dc ⟨vb, voff, none⟩ 1 vc [x] L.t22 hsz (by simp only [Nat.min_def, List.length_singleton]; split <;> omega) (fun j v hj => ?_) (fun j hj => ?_) (fun j hj => ?_) (fun v hv => by rw [List.mem_singleton] at hv; rw [hv]; exact h1x)
    · cases j with
      | zero =>
        simp only [List.getElem?_cons_zero, Option.some.injEq] at hj
        subst hj
        rw [hWc, hW1, World.cell?_setCells_out b _ _ _ _ (fun h _ => absurd h hvb)]
        exact hx
      | succ j => simp at hj
    · rw [hWc, Nat.add_assoc]; exact hsp1 _ (by simp only [List.length_singleton] at hj; omega)
    · rw [hWf, hW1, World.frozen?_setCells, Nat.add_assoc]; exact hfz _ (by simp only [List.length_singleton] at hj; omega)
  have hW : Hid (W1 = w.drew.setCells b (off + (i + 1)) (cs.drop i)) := hW1
  clear hW1 hsp hfz hcs hx hsp1
  go_enter L.f21, Body2.n21_ntmps ρ
  go_wp2_with (simp only [hov])
  go_region_law_o (refine step_copy_runI rfl _ _ (ρ.t 22) (ρ.t 22) rfl _ _ (by simp [Act.eval, Act.put]) (by simp [Act.eval, Act.put]) (hc1 _ _ _) ?_)
  go_wp2_with (at_builtin; refine wpList_copy_runI _ rfl _ _ (ρ.t 22) (ρ.t 22) rfl _ _ rfl rfl (hc2 _ (fun _ => rfl) (fun _ => rfl) _ _) ?_)
  go_ret
  rw [hW.out]
  exact ⟨rfl, rfl⟩
set_option maxHeartbeats 4000000 in
set_option maxRecDepth 1000000 in
/-- slices.Insert of one value behind all, where there is room. -/
theorem insert_end (L : Lays2.n21 P ρ) (b off n c vb voff vc : Nat) (x : Value) (w : World) (hroom : n + 1 ≤ c) (hn : n ≤ 4611686018427387904)
    (hsp : (w.cell? ⟨b, off + n, none⟩).isSome = true) (hfz : w.frozen? ⟨b, off + n, none⟩ = false) (hx : w.cell? ⟨vb, voff, none⟩ = some x) (h1x : x.oneCell' = true) :
    Calls P (ρ.f 21) #[.slice (some ⟨b, off, none⟩) n c, .int .i64 n, .slice (some ⟨vb, voff, none⟩) 1 vc] w fun e w' =>
      e = .returned (.slice (some ⟨b, off, none⟩) (n + 1) c) ∧ w' = w.setCells b (off + n) [x] := by
  have mixed := L.mixed
  have t0 := L.t0; have a0 := L.a0; have z0 := L.z0; have v0 := L.v0; have t3 := L.t3; have a3 := L.a3; have z3 := L.z3; have v3 := L.v3; have t4 := L.t4; have a4 := L.a4; have z4 := L.z4; have v4 := L.v4; have t22 := L.t22; have a22 := L.a22; have z22 := L.z22; have v22 := L.v22
  have u0 := run_underlying L.t0; have u3 := run_underlying L.t3; have u4 := run_underlying L.t4; have u22 := run_underlying L.t22
  have hz1 : ¬ ((1 : Int) = 0) := by omega
  have hsrc : Src P 1 (ρ.t 22) (.slice (some ⟨vb, voff, none⟩) 1 vc) 1 [x] w := Src.ofSlice w L.t22 ⟨vb, voff, none⟩ 1 vc [x] rfl (fun j u hj => by
    cases j with
    | zero => simp only [List.getElem?_cons_zero, Option.some.injEq] at hj; subst hj; exact hx
    | succ j => simp at hj) (fun v hv => by rw [List.mem_singleton] at hv; rw [hv]; exact h1x)
  have e1 : ∀ j, j < [x].length → (w.cell? ⟨b, off + n + j, none⟩).isSome = true := fun j hj => by
    rw [List.length_singleton] at hj
    obtain rfl : j = 0 := by omega
    exact hsp
  have e2 : ∀ j, j < [x].length → w.frozen? ⟨b, off + n + j, none⟩ = false := fun j hj => by
    rw [List.length_singleton] at hj
    obtain rfl : j = 0 := by omega
    exact hfz
  have hcn : n ≤ c := by omega
  clear hsp hfz hx
  go_enter L.f21, Body2.n21_ntmps ρ
  go_wp2_with (at_builtin; refine wpList_append_room1 _ rfl _ _ (ρ.t 22) (ρ.t 22) rfl (ρ.t 3) _ _ L.t22 L.i3 b off n c rfl _ rfl 1 [x] hsrc hroom e1 e2 ?_)
  go_ret
  exact ⟨rfl, rfl⟩
theorem setB_setB {w : World} {b : Nat} {x y : Obj} : setB (setB w b x) b y = setB w b y := by
  simp only [setB]
  congr 1
  apply Array.ext_getElem?
  intro k
  simp only [Array.getElem?_setIfInBounds, Array.size_setIfInBounds]
  split <;> rfl
/-- A root moves to some new block. -/
theorem Step.moveAt {w w' : World} {ρ : Rho} {R : Tab} (hm : Mem w ρ R) {r : Nat} {rt rt' : Root} (hr : R[r]? = some (.live rt)) {B : Nat} {c : Array Value} {T : TypeId} {fr : Nat × Nat} (hB : w.heap.size ≤ B) (hnew : w'.heap[B]? = some (.cells c T fr)) (hfr : unfrz fr c.size)
    (hg : rt.g < rt'.g) (hlen : rt'.cells.length ≤ c.size) (hcells : ∀ (i : Nat) x, rt'.cells[i]? = some x → ∃ y, c[i]? = some y ∧ RB w ρ R x y) (hrow : rt'.row = true → ∀ x ∈ rt'.cells, x.closed = true)
    (hold : ∀ b, b < w.heap.size → w'.heap[b]? = w.heap[b]?) (hsz : w.heap.size ≤ w'.heap.size) (ho : w'.os = w.os) (hp : w'.output = w.output) :
    Step w ρ R w' (upd ρ r (some (B, 0))) (R.set r (.live rt')) := by
  have hown : ∀ b, Own (upd ρ r (some (B, 0))) (R.set r (.live rt')) b → Own ρ R b ∨ b = B := by
    rintro b ⟨r', rt1, o, h', hρ⟩
    by_cases e : r = r'
    · subst e; rw [upd_self] at hρ; cases hρ; exact .inr rfl
    · rw [set_other e] at h'; rw [upd_other (Ne.symm e)] at hρ; exact .inl ⟨r', rt1, o, h', hρ⟩
  have hext : Ext w ρ R w' (upd ρ r (some (B, 0))) (R.set r (.live rt')) := by
    refine ⟨fun b hb => ⟨⟨Nat.lt_of_lt_of_le hb.1 hsz, fun h => ?_⟩, hold b hb.1⟩, fun _ => Iff.rfl, fun r' e he hf => ?_⟩
    · rcases hown b h with h | h
      · exact hb.2 h
      · have := hb.1; omega
    · by_cases e' : r = r'
      · subst e'
        rw [hr] at he; cases he
        refine ⟨.live rt', set_self hr, by simp, fun rt1 h1 => ?_⟩
        cases h1
        exact ⟨rt, rfl, Nat.le_of_lt hg, fun hgg => absurd hgg (Nat.ne_of_gt hg)⟩
      · refine ⟨e, by rw [set_other e']; exact he, hf, fun rt1 h => ⟨rt1, h, Nat.le_refl _, fun _ => ⟨rfl, rfl, upd_other (Ne.symm e'), Nat.le_refl _, fun b o hb => ?_⟩⟩⟩
        subst h
        have hlt := hm.own_lt ⟨r', rt1, o, he, hb⟩
        simp [bsz, hold b hlt]
  refine ⟨hext, ⟨fun r' rt1 h' => ?_, fun r1 r2 rt1 rt2 b o o' h1 h2 g1 g2 => ?_, fun b h hob => (hown b h).elim (fun h => hm.apart b h hob) (fun h => absurd (hm.outlt b hob) (by omega)), fun b hob => Nat.lt_of_lt_of_le (hm.outlt b hob) hsz, hm.globE hext⟩, ho, hp, hsz, fun b h => (hown b h).imp id fun h => by omega⟩
  · by_cases e : r = r'
    · subst e
      rw [set_self hr] at h'; cases h'
      refine ⟨?_, hrow⟩
      rw [upd_self]
      exact ⟨c, T, fr, hnew, hfr, by simpa using hlen, fun i x hx => let ⟨y, hy, hr⟩ := hcells i x hx; ⟨y, by simpa using hy, RB_ext hext hr⟩⟩
    · rw [set_other e] at h'
      exact RootOK_ext hext (upd_other (Ne.symm e)) (fun b o hb => hold b (hm.own_lt ⟨r', rt1, o, h', hb⟩)) (hm.roots r' rt1 h')
  · by_cases e1 : r = r1
    · subst e1
      by_cases e2 : r = r2
      · exact e2
      · rw [set_other e2] at h2; rw [upd_other (Ne.symm e2)] at g2
        rw [upd_self] at g1; cases g1
        have := hm.own_lt ⟨r2, rt2, o', h2, g2⟩
        omega
    · by_cases e2 : r = r2
      · subst e2
        rw [set_other e1] at h1; rw [upd_other (Ne.symm e1)] at g1
        rw [upd_self] at g2; cases g2
        have := hm.own_lt ⟨r1, rt1, o, h1, g1⟩
        omega
      · rw [set_other e1] at h1; rw [set_other e2] at h2
        rw [upd_other (Ne.symm e1)] at g1; rw [upd_other (Ne.symm e2)] at g2
        exact hm.dist r1 r2 rt1 rt2 b o o' h1 h2 g1 g2
theorem Step.drew {w : World} {ρ : Rho} {R : Tab} (hm : Mem w ρ R) : Step w ρ R w.drew ρ R := Step.draw hm w.drew rfl rfl rfl
theorem intC_len (l : List Int) : (intC l).length = l.length := by rw [intC_eq]; simp
theorem intC_get {l : List Int} {i : Nat} {x : B} (h : (intC l)[i]? = some x) : ∃ hi : i < l.length, x = .v (.int .i64 l[i]) := by
  rw [intC_eq, List.getElem?_map] at h
  obtain ⟨z, hz, rfl⟩ := Option.map_eq_some_iff.1 h
  obtain ⟨hi, rfl⟩ := List.getElem?_eq_some_iff.1 hz
  exact ⟨hi, rfl⟩
theorem intC_closed {l : List Int} : ∀ x ∈ intC l, x.closed = true := by
  intro x hx
  rw [intC_eq] at hx
  obtain ⟨z, _, rfl⟩ := List.mem_map.1 hx
  rfl
/-- A root of ints: where it lies. -/
theorem int_root {w : World} {ρ : Rho} {R : Tab} (hm : Mem w ρ R) {r : Nat} {l : List Int} (hr : R[r]? = some (.live ⟨0, 1, true, intC l⟩)) {y : Value} (hy : RB w ρ R (.rf r 0 0 l.length) y) :
    ∃ a cap, y = .slice a l.length cap ∧ l.length ≤ cap ∧ (cap = 0 ∨ ∃ b o c T fr, ρ.gh r = some (b, o) ∧ a = some ⟨b, o, none⟩ ∧ w.heap[b]? = some (.cells c T fr) ∧ unfrz fr c.size ∧ o + cap ≤ c.size ∧ ∀ k (hk : k < l.length), c[o + k]? = some (.int .i64 l[k])) := by
  obtain ⟨_, e, he, _, hrt⟩ := hy
  rw [hr] at he
  cases he
  obtain ⟨_, hrf⟩ := hrt _ rfl
  obtain ⟨a, cap, rfl, hlc, _, _, hcl, hor⟩ := hrf rfl
  refine ⟨a, cap, rfl, hlc, hor.imp id ?_⟩
  rintro ⟨b, o, hgh, rfl, hbs⟩
  have hroot := (hm.roots r _ hr).1
  rw [hgh] at hroot
  obtain ⟨c, T, fr, hblk, hfr, hsz, hcells⟩ := hroot
  refine ⟨b, o, c, T, fr, hgh, by simp, hblk, hfr, ?_, fun k hk => ?_⟩
  · simpa [bsz, hblk] using hbs
  · obtain ⟨y, h1, h2⟩ := hcells k (B.v (.int .i64 l[k])) (by simp only [intC_eq]; simp [hk])
    rw [h1]; exact congrArg some h2
theorem cell_blk {w : World} {b : Nat} {c : Array Value} {T : TypeId} {fr : Nat × Nat} (h : w.heap[b]? = some (.cells c T fr)) (k : Nat) : w.cell? ⟨b, k, none⟩ = c[k]? := by
  show (match w.heap[b]? with | some (.cells c _ _) => if (none : Option Nat).isSome then none else c[k]? | _ => none) = _
  rw [h]; rfl
theorem frz_blk {w : World} {b : Nat} {c : Array Value} {T : TypeId} {fr : Nat × Nat} (h : w.heap[b]? = some (.cells c T fr)) (hf : unfrz fr c.size) (k : Nat) : w.frozen? ⟨b, k, none⟩ = false := by
  show (match w.heap[b]? with | some (.cells _ _ (lo, hi)) => lo ≤ k && k < hi | _ => false) = false
  unfold unfrz at hf
  subst hf
  rw [h]
  simp
theorem shape_blk {w : World} {b : Nat} {c : Array Value} {T : TypeId} {fr : Nat × Nat} (h : w.heap[b]? = some (.cells c T fr)) : w.shape? b = some (T, c.size) := by
  unfold World.shape?
  rw [h]

theorem ins_get {α : Type} {l : List α} {i : Nat} {x : α} (hi : i ≤ l.length) (k : Nat) : (l.take i ++ [x] ++ l.drop i)[k]? = if k < i then l[k]? else if k = i then some x else l[k - 1]? := by
  have ht : (l.take i).length = i := by simp; omega
  by_cases h1 : k < i
  · rw [if_pos h1, List.append_assoc, List.getElem?_append_left (by omega), List.getElem?_take, if_pos h1]
  · rw [if_neg h1, List.append_assoc, List.getElem?_append_right (by omega), ht]
    by_cases h2 : k = i
    · subst h2; simp
    · rw [if_neg h2, List.getElem?_append_right (by simp; omega), List.getElem?_drop]
      congr 1; simp; omega
/-- slices.Insert of one value at []int. -/
theorem insert_ok {P : Program} {f : FuncId} (hF : FnFacts P f) {ρr : Ren} (hf : ρr.f 21 = f) (L : Lays2.n21 P ρr) :
    FOK P f ⟨[.one (.rw 0 0), .one (.si .i64), .one (.rw 1 0)], [.row 0 (.int .i64), .row 0 (.int .i64)]⟩ [⟨[.one (.rw 0 1)], [.row 1 (.int .i64), .row 0 (.int .i64)]⟩]
      (fun v => match v.2.2 with
        | [x] => if 0 ≤ v.1.2.1 ∧ v.1.2.1 ≤ (v.2.1.length : Int) ∧ v.2.1.length ≤ 1000000000000 then some ((), v.2.1.take v.1.2.1.toNat ++ [x] ++ v.2.1.drop v.1.2.1.toNat, [x]) else none
        | _ => none) := by
  rintro ⟨⟨⟨⟩, (i' : Int), ⟨⟩⟩, (l : List Int), (vs : List Int)⟩ o h
  match vs, h with
  | [x], h =>
  simp only at h
  split at h
  · rename_i hb
    cases h
    obtain ⟨b1, b2, b4⟩ := hb
    have b1 : 0 ≤ i' := b1
    have b2 : i' ≤ (l.length : Int) := b2
    have b4 : l.length ≤ 1000000000000 := b4
    obtain ⟨i, rfl⟩ := Int.eq_ofNat_of_zero_le b1
    have hi : i ≤ l.length := by omega
    simp only [Int.toNat_natCast] at *
    refine ⟨hF, fun w ρ vs hm hal hargs => ?_⟩
    let R : Tab := [.live ⟨0, 1, true, intC l⟩, .live ⟨0, 1, true, intC [x]⟩]
    have hm : Mem w ρ R := hm
    have hargs : RVs w ρ R [.g (.b (.rf 0 0 0 l.length)), .g (.b (.v (.int .i64 i))), .g (.b (.rf 1 0 0 1))] vs := hargs
    obtain ⟨hlen, hargs⟩ := hargs
    match vs, hlen with
    | [y, y1, y2], _ =>
      have hy : RB w ρ R (.rf 0 0 0 l.length) y := hargs 0 _ y rfl rfl
      have hy1 : y1 = .int .i64 i := hargs 1 _ y1 rfl rfl
      have hy2 : RB w ρ R (.rf 1 0 0 [x].length) y2 := hargs 2 _ y2 rfl rfl
      subst hy1
      obtain ⟨a, cap, rfl, hlc, hor⟩ := int_root hm (r := 0) (l := l) rfl hy
      obtain ⟨a2, cap2, rfl, hlc2, hor2⟩ := int_root hm (r := 1) (l := [x]) rfl hy2
      have hlc2 : 1 ≤ cap2 := hlc2
      obtain ⟨vb, vo, cv, TV', frv, hgv, rfl, hbv, hfv, hsv, hcv⟩ : ∃ b o c T fr, ρ.gh 1 = some (b, o) ∧ a2 = some ⟨b, o, none⟩ ∧ w.heap[b]? = some (.cells c T fr) ∧ unfrz fr c.size ∧ o + cap2 ≤ c.size ∧ ∀ k (hk : k < [x].length), c[o + k]? = some (.int .i64 [x][k]) := by
        rcases hor2 with h0 | h0
        · omega
        · exact h0
      have hx : w.cell? ⟨vb, vo, none⟩ = some (.int .i64 x) := by rw [cell_blk hbv]; exact hcv 0 (by simp)
      have hres : (l.take i ++ [x] ++ l.drop i).length = l.length + 1 := by simp; omega
      -- the row lies where it was
      have put : ∀ (b o' : Nat) (c : Array Value) (T : TypeId) (fr : Nat × Nat) (w1 : World) (c' : Array Value), ρ.gh 0 = some (b, o') → w.heap[b]? = some (.cells c T fr) → w1.heap = w.heap → w1.os = w.os → w1.output = w.output → c'.size = c.size → o' + cap ≤ c.size → l.length + 1 ≤ cap →
          (∀ (k : Nat) (z : Int), (l.take i ++ [x] ++ l.drop i)[k]? = some z → c'[o' + k]? = some (Value.int .i64 z)) →
          ∃ y ρ', Ending.returned (.slice (some ⟨b, o', none⟩) (l.length + 1) cap) = Ending.returned y ∧ Step w ρ R (setB w1 b (.cells c' T fr)) ρ' [.live ⟨1, 1, true, intC (l.take i ++ [x] ++ l.drop i)⟩, .live ⟨0, 1, true, intC [x]⟩] ∧
            RB (setB w1 b (.cells c' T fr)) ρ' [.live ⟨1, 1, true, intC (l.take i ++ [x] ++ l.drop i)⟩, .live ⟨0, 1, true, intC [x]⟩] (.rf 0 1 0 (l.take i ++ [x] ++ l.drop i).length) y := by
        intro b o' c T fr w1 c' hg hblk hw1 ho1 hp1 hcs hcap hroom hget
        have sd : Step w ρ R w1 ρ R := Step.old hm (fun b _ => by rw [hw1]) (by rw [hw1]; exact Nat.le_refl _) ho1 hp1
        have hblk1 : w1.heap[b]? = some (.cells c T fr) := by rw [hw1]; exact hblk
        have sp := Step.put sd.mem (r := 0) (rt := ⟨0, 1, true, intC l⟩) (rt' := ⟨1, 1, true, intC (l.take i ++ [x] ++ l.drop i)⟩) rfl (b := b) (o := o') (o' := o') hg (c := c) (c' := c') hblk1 hcs (by show 0 ≤ 1; omega) (fun h => by cases h)
          (by simp only [intC_len, hres]; omega) (fun k z hz => by
            obtain ⟨hk, rfl⟩ := intC_get hz
            exact ⟨_, hget k _ (List.getElem?_eq_getElem hk), rfl⟩) (fun _ => intC_closed)
        refine ⟨_, _, rfl, sd.trans sp, ⟨some ⟨b, o', none⟩, cap, by rw [hres]⟩, .live ⟨1, 1, true, intC (l.take i ++ [x] ++ l.drop i)⟩, rfl, (fun h => by cases h), fun rt hrt => ?_⟩
        cases hrt
        refine ⟨Nat.le_refl _, fun _ => ⟨some ⟨b, o', none⟩, cap, by rw [hres], by rw [hres]; exact hroom, Nat.zero_lt_one, rfl, by simp only [intC_len, hres]; omega, .inr ⟨b, o', upd_self _ _ _, by simp, ?_⟩⟩⟩
        have hlt := (Array.getElem?_eq_some_iff.1 hblk1).1
        simp only [bsz, setB_self hlt, hcs]
        omega
      -- the row lies in a new block
      have mv : ∀ (w' : World) (c' : Array Value) (T : TypeId) (cap' : Nat), w'.heap[w.heap.size]? = some (.cells c' T) → (∀ b, b < w.heap.size → w'.heap[b]? = w.heap[b]?) → w.heap.size ≤ w'.heap.size → w'.os = w.os → w'.output = w.output → l.length + 1 ≤ cap' → cap' ≤ c'.size →
          (∀ (k : Nat) (z : Int), (l.take i ++ [x] ++ l.drop i)[k]? = some z → c'[k]? = some (Value.int .i64 z)) →
          ∃ y ρ', Ending.returned (.slice (some ⟨w.heap.size, 0, none⟩) (l.length + 1) cap') = Ending.returned y ∧ Step w ρ R w' ρ' [.live ⟨1, 1, true, intC (l.take i ++ [x] ++ l.drop i)⟩, .live ⟨0, 1, true, intC [x]⟩] ∧
            RB w' ρ' [.live ⟨1, 1, true, intC (l.take i ++ [x] ++ l.drop i)⟩, .live ⟨0, 1, true, intC [x]⟩] (.rf 0 1 0 (l.take i ++ [x] ++ l.drop i).length) y := by
        intro w' c' T cap' hnew hold hsz ho hp hc1 hc2 hget
        have sm := Step.moveAt (w' := w') hm (r := 0) (rt := ⟨0, 1, true, intC l⟩) (rt' := ⟨1, 1, true, intC (l.take i ++ [x] ++ l.drop i)⟩) rfl (B := w.heap.size) (Nat.le_refl _) hnew rfl (by show 0 < 1; omega) (by simp only [intC_len, hres]; omega)
          (fun k z hz => by
            obtain ⟨hk, rfl⟩ := intC_get hz
            exact ⟨_, hget k _ (List.getElem?_eq_getElem hk), rfl⟩) (fun _ => intC_closed) hold hsz ho hp
        refine ⟨_, _, rfl, sm, ⟨some ⟨w.heap.size, 0, none⟩, cap', by rw [hres]⟩, .live ⟨1, 1, true, intC (l.take i ++ [x] ++ l.drop i)⟩, rfl, (fun h => by cases h), fun rt hrt => ?_⟩
        cases hrt
        refine ⟨Nat.le_refl _, fun _ => ⟨some ⟨w.heap.size, 0, none⟩, cap', by rw [hres], by rw [hres]; exact hc1, Nat.zero_lt_one, rfl, by simp only [intC_len, hres]; omega, .inr ⟨w.heap.size, 0, upd_self _ _ _, by simp, ?_⟩⟩⟩
        simp only [bsz, hnew]
        omega
      have goal : Calls P f #[.slice a l.length cap, .int .i64 i, .slice (some ⟨vb, vo, none⟩) 1 cap2] w fun e w' => ∃ y ρ', e = Ending.returned y ∧ Step w ρ R w' ρ' [.live ⟨1, 1, true, intC (l.take i ++ [x] ++ l.drop i)⟩, .live ⟨0, 1, true, intC [x]⟩] ∧
            RB w' ρ' [.live ⟨1, 1, true, intC (l.take i ++ [x] ++ l.drop i)⟩, .live ⟨0, 1, true, intC [x]⟩] (.rf 0 1 0 (l.take i ++ [x] ++ l.drop i).length) y := by
        rw [← hf]
        have hxs : ∀ j v, [Value.int .i64 x][j]? = some v → w.cell? ⟨vb, vo + j, none⟩ = some v := by
          intro j v hj
          cases j with
          | zero => simp only [List.getElem?_cons_zero, Option.some.injEq] at hj; subst hj; exact hx
          | succ j => simp at hj
        have hone : ∀ v ∈ [Value.int .i64 x], v.oneCell' = true := by intro v hv; rw [List.mem_singleton] at hv; rw [hv]; rfl
        have hcells : ∀ ad, a = some ad → 0 < l.length → ∀ j v, (l.map (Value.int .i64))[j]? = some v → w.cell? (ad.add j) = some v := by
          intro ad had h0 j v hj
          rcases hor with h1 | ⟨b, o', c, T, fr, hg, rfl, hblk, hfr, hsz, hc⟩
          · omega
          · cases had
            rw [add_mk, cell_blk hblk]
            rw [List.getElem?_map] at hj
            obtain ⟨z, hz, rfl⟩ := Option.map_eq_some_iff.1 hj
            obtain ⟨hlt, rfl⟩ := List.getElem?_eq_some_iff.1 hz
            exact hc j hlt
        have hmone : ∀ v ∈ l.map (Value.int .i64), v.oneCell' = true := by intro v hv; obtain ⟨z, _, rfl⟩ := List.mem_map.1 hv; rfl
        by_cases hroom : l.length + 1 ≤ cap
        · -- there is room
          obtain ⟨b, o', c, T, fr, hg, rfl, hblk, hfr, hsz, hc⟩ : ∃ b o c T fr, ρ.gh 0 = some (b, o) ∧ a = some ⟨b, o, none⟩ ∧ w.heap[b]? = some (.cells c T fr) ∧ unfrz fr c.size ∧ o + cap ≤ c.size ∧ ∀ k (hk : k < l.length), c[o + k]? = some (.int .i64 l[k]) := by
            rcases hor with h0 | h0
            · omega
            · exact h0
          have hlt := (Array.getElem?_eq_some_iff.1 hblk).1
          have hne : vb ≠ b := by
            rintro rfl
            have := hm.dist 0 1 _ _ vb o' vo rfl rfl hg hgv
            omega
          by_cases hil : i < l.length
          · have hw := insert_room L b o' l.length cap i vb vo cap2 (l.map (Value.int .i64)) (.int .i64 x) w hil hroom (by omega) hne (by simp) (fun j v hj => by have := hcells _ rfl (by omega) j v hj; rwa [add_mk] at this)
              (fun j hj => by rw [cell_blk hblk, Array.getElem?_eq_getElem (by omega)]; rfl) (fun j _ => frz_blk hblk hfr _) hx hmone rfl TV' T cv.size c.size (shape_blk hbv) (shape_blk hblk) (by omega) (frz_blk hbv hfv _) (frz_blk hbv hfv _)
            refine Calls.mono hw fun e' w' h => ?_
            obtain ⟨rfl, rfl⟩ := h
            rw [setCells_setB _ _ _ w.drew hblk, setCells_setB _ _ _ _ (setB_self (w := w.drew) hlt), setB_setB]
            refine put b o' c T fr w.drew _ hg hblk rfl rfl rfl (by simp) hsz hroom fun k z hz => ?_
            have hk : k < l.length + 1 := by rw [← hres]; exact (List.getElem?_eq_some_iff.1 hz).1
            rw [ins_get hi] at hz
            rw [ovr_get _ _ _ _ (by simp; omega), ovr_get _ _ _ _ (by simp; omega)]
            simp only [List.length_singleton, List.length_drop, List.length_map]
            split at hz
            · rw [if_neg (by omega), if_neg (by omega), hc k (by omega)]
              rw [List.getElem?_eq_getElem (by omega)] at hz
              cases hz; rfl
            · split at hz
              · rename_i h1 h2
                subst h2
                cases hz
                rw [if_pos (by omega), Nat.sub_self]; rfl
              · rw [if_neg (by omega), if_pos (by omega), List.getElem?_drop, List.getElem?_map, show i + (o' + k - (o' + (i + 1))) = k - 1 by omega, hz]; rfl
          · obtain rfl : i = l.length := by omega
            have hw := insert_end L b o' l.length cap vb vo cap2 (.int .i64 x) w hroom (by omega) (by rw [cell_blk hblk, Array.getElem?_eq_getElem (by omega)]; rfl) (frz_blk hblk hfr _) hx rfl
            refine Calls.mono hw fun e' w' h => ?_
            obtain ⟨rfl, rfl⟩ := h
            rw [setCells_setB _ _ _ w hblk]
            refine put b o' c T fr w _ hg hblk rfl rfl rfl (by simp) hsz hroom fun k z hz => ?_
            have hk : k < l.length + 1 := by rw [← hres]; exact (List.getElem?_eq_some_iff.1 hz).1
            rw [ins_get hi] at hz
            rw [ovr_get _ _ _ _ (by simp; omega)]
            simp only [List.length_singleton]
            split at hz
            · rw [if_neg (by omega), hc k (by omega)]
              rw [List.getElem?_eq_getElem (by omega)] at hz
              cases hz; rfl
            · obtain rfl : k = l.length := by omega
              rw [if_pos rfl] at hz
              cases hz
              rw [if_pos (by omega), Nat.sub_self]; rfl
        · -- there is none
          have hbig : (l.length + 1) * 8 ≤ 140737488355328 := by omega
          have hgc : l.length + 1 ≤ grownCap w (l.length + 1) cap (ρr.t 3) := grownCap_ge w _ _ _
          by_cases hil : i < l.length
          · obtain ⟨b, o', c, T, fr, hg, rfl, hblk, hfr, hsz, hc⟩ : ∃ b o c T fr, ρ.gh 0 = some (b, o) ∧ a = some ⟨b, o, none⟩ ∧ w.heap[b]? = some (.cells c T fr) ∧ unfrz fr c.size ∧ o + cap ≤ c.size ∧ ∀ k (hk : k < l.length), c[o + k]? = some (.int .i64 l[k]) := by
              rcases hor with h0 | h0
              · omega
              · exact h0
            have hw := Any2.slices_Insert_int_grow L b o' l.length cap i vb vo 1 cap2 (l.map (Value.int .i64)) [.int .i64 x] w hil (by omega) hlc (by omega) hbig (by simp) rfl (fun j v hj => by have := hcells _ rfl (by omega) j v hj; rwa [add_mk] at this) hxs hmone hone
            refine Calls.mono hw fun e' w' h => ?_
            obtain ⟨rfl, rfl⟩ := h
            generalize hG : grownCap w (l.length + 1) cap (ρr.t 3) = G at hgc
            obtain ⟨c0, hc0⟩ : ∃ c0 : Array Value, c0 = ((l.map (Value.int .i64)).take i).toArray ++ Builtin.zeroCells (Value.int .i64 0).cells (l.length + 1 - i) ++ Builtin.zeroCells (Value.int .i64 0).cells (G - (l.length + 1)) := ⟨_, rfl⟩
            rw [← hc0]
            have hc0s : c0.size = G := by rw [hc0]; simp [Builtin.zeroCells, Value.cells]; omega
            have hc0g : ∀ k, k < i → c0[k]? = some (.int .i64 l[k]!) := by
              intro k hk
              rw [hc0, Array.append_assoc, Array.getElem?_append_left (by simp; omega)]
              simp only [List.getElem?_toArray, List.getElem?_take, if_pos hk, List.getElem?_map]
              rw [List.getElem?_eq_getElem (by omega), getElem!_pos l k (by omega)]; rfl
            have hn0 : (w.alloc (.cells c0 (ρr.t 3))).drew.heap[w.heap.size]? = some (.cells c0 (ρr.t 3)) := pushB_self w _
            have hlt0 : w.heap.size < (w.alloc (.cells c0 (ρr.t 3))).drew.heap.size := (Array.getElem?_eq_some_iff.1 hn0).1
            rw [setCells_setB _ _ _ _ hn0]
            obtain ⟨W2, hW2⟩ : ∃ W2, W2 = (setB (w.alloc (.cells c0 (ρr.t 3))).drew w.heap.size (.cells (ovr c0 i [.int .i64 x]) (ρr.t 3))).drew := ⟨_, rfl⟩
            have hn2 : W2.heap[w.heap.size]? = some (.cells (ovr c0 i [.int .i64 x]) (ρr.t 3)) := by rw [hW2]; exact setB_self (w := (w.alloc (.cells c0 (ρr.t 3))).drew) hlt0
            have hlt2 : w.heap.size < W2.heap.size := (Array.getElem?_eq_some_iff.1 hn2).1
            have hold2 : ∀ b', b' < w.heap.size → W2.heap[b']? = w.heap[b']? := by
              intro b' hb'
              rw [hW2]
              show (setB (w.alloc (.cells c0 (ρr.t 3))).drew _ _).heap[b']? = _
              rw [setB_other (by omega)]
              exact pushB_old (x := .cells c0 (ρr.t 3)) hb'
            have hos2 : W2.os = w.os := by rw [hW2]; rfl
            have hop2 : W2.output = w.output := by rw [hW2]; rfl
            rw [← hW2, setCells_setB _ _ _ _ hn2]
            refine mv _ (ovr (ovr c0 i [.int .i64 x]) (i + 1) ((l.map (Value.int .i64)).drop i)) (ρr.t 3) G (setB_self hlt2) (fun b' hb' => by rw [setB_other (by omega)]; exact hold2 b' hb') (by rw [setB_size]; omega) hos2 hop2 (by omega) (by simp only [ovr_size, hc0s]; omega) fun k z hz => ?_
            · have hk : k < l.length + 1 := by rw [← hres]; exact (List.getElem?_eq_some_iff.1 hz).1
              rw [ins_get hi] at hz
              rw [ovr_get _ _ _ _ (by simp [hc0s]; omega), ovr_get _ _ _ _ (by simp [hc0s]; omega)]
              simp only [List.length_singleton, List.length_drop, List.length_map]
              split at hz
              · rw [if_neg (by omega), if_neg (by omega), hc0g k (by omega)]
                rw [List.getElem?_eq_getElem (by omega)] at hz
                cases hz
                rw [getElem!_pos l k (by omega)]
              · split at hz
                · rename_i h1 h2
                  subst h2
                  cases hz
                  rw [if_neg (by omega), if_pos (by omega), Nat.sub_self]; rfl
                · rw [if_pos (by omega), List.getElem?_drop, List.getElem?_map, show i + (k - (i + 1)) = k - 1 by omega, hz]; rfl
          · obtain rfl : i = l.length := by omega
            have hw := Any2.slices_Insert_int_end_grow L a l.length cap vb vo 1 cap2 (l.map (Value.int .i64)) [.int .i64 x] w (by omega) hlc (by omega) hbig (by simp) rfl (fun h => by
                rcases hor with h0 | ⟨b, o', c, T, fr, hg, h1, _⟩
                · omega
                · rw [h1] at h; cases h) (fun ad had j v hj => by
                by_cases h0 : 0 < l.length
                · exact hcells ad had h0 j v hj
                · have : l = [] := List.eq_nil_of_length_eq_zero (by omega)
                  subst this; simp at hj) hxs hone
            refine Calls.mono hw fun e' w' h => ?_
            obtain ⟨rfl, rfl⟩ := h
            generalize hG : grownCap w (l.length + 1) cap (ρr.t 3) = G at hgc
            refine mv _ ((l.map (Value.int .i64) ++ [Value.int .i64 x]).toArray ++ Builtin.zeroCells (Value.int .i64 0).cells (G - (l.length + 1))) (ρr.t 3) G (pushB_self w.drew _) (fun b' hb' => pushB_old (w := w.drew) (x := .cells _ (ρr.t 3)) hb') (by show w.heap.size ≤ (w.heap.push _).size; rw [Array.size_push]; omega) rfl rfl hgc (by simp [Builtin.zeroCells, Value.cells]; omega) fun k z hz => ?_
            have hk : k < l.length + 1 := by rw [← hres]; exact (List.getElem?_eq_some_iff.1 hz).1
            rw [ins_get hi] at hz
            rw [Array.getElem?_append_left (by simp; omega)]
            simp only [List.getElem?_toArray]
            split at hz
            · rename_i h1
              rw [List.getElem?_append_left (by simpa using h1), List.getElem?_map, hz]; rfl
            · obtain rfl : k = l.length := by omega
              rw [if_pos rfl] at hz
              cases hz
              rw [List.getElem?_append_right (by simp)]; simp
      exact goal
  · cases h
end Go.Gm
