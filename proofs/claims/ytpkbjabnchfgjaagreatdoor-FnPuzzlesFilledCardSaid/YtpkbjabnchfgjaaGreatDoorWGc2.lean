import Derived.Test.YtpkbjabnchfgjaaGreatDoorWGc1
import Derived.Shelf.SlLaysE0
import Derived.Shelf.RegionOpenPlain
import Derived.WalkKit
import Derived.Lib.Walk
import Derived.Lib.SliceRun
import Derived.Shelf.SlicesE.Clone
namespace Go.Gm
open Go Go.Proofs Go.RowKit Go.Shelf Go.Lib
set_option linter.unusedVariables false
section
variable {P : Program} {ρ : Ren}
set_option maxHeartbeats 2000000 in
set_option maxRecDepth 100000 in
theorem zaei (L : SlLaysE0.n41 P ρ) (i0 : TypeInfo) (z : Value) (size bytes : Nat) (hi : P.info? (ρ.t 23) = some i0) (hz0 : i0.zero = some z) (hz1 : i0.size = size) (hz2 : i0.bytes = bytes) (hzs : z.cells.size = size) (hsz : 0 < size)
  (z23 : ∀ w, (Go.sizeOf (ρ.t 23)).run P w = .ok size w) (ad : Addr) (n c : Nat) (news : List Value) (w : World) (hl : news.length = n * size) (hn : n ≤ maxLen) (hbig : n * bytes ≤ 140737488355328)
  (hc : ∀ j u, news[j]? = some u → w.cell? (ad.add j) = some u) (h1 : ∀ u ∈ news, u.oneCell' = true) :
  Calls P (ρ.f 41) #[.slice (some ad) n c] w fun e w' => ∃ v', e = .returned v' ∧ w'.ownsRow w.heap.size (ρ.t 23) size v' n news ∧ Below w.heap.size w w' := by
 have mixed := L.mixed; have t4 := L.t4; have a4 := L.a4; have z4 := L.z4; have v4 := L.v4; have t22 := L.t22; have a22 := L.a22; have z22 := L.z22; have v22 := L.v22
 have q22 : ∀ (w : World) (a : Option Addr) (n c n' c' : Nat), (binOp .eql (ρ.t 22) (.slice a n c) (.slice none n' c')).run P w = .ok (.bool a.isNone) w := fun w a n c n' c' => Lib.run_eql_slice_nil w _ _ a n c n' c' L.t22
 have u22 : ∀ w, Sem.run P (underlying (ρ.t 22)) w = .ok (TypeDesc.slice (ρ.t 23)) w := run_underlying t22
 have A : Aside (∀ j u, news[j]? = some u → w.cell? (ad.add j) = some u) := hc
 clear hc
 obtain ⟨_, _, FG⟩ := L.f41
 go_enter FG, SlBodyN.n41_ntmps ρ
 go_wp2_with (at_builtin; refine wpList_append_own _ rfl _ _ (ρ.t 22) rfl w.heap.size (ρ.t 23) i0 z size bytes t22 hi hz0 hz1 hz2 hzs hsz _ _ _ rfl (World.ownsRow_made w #[] 0 (qi _) (Nat.zero_le _) (by simp)) ad n c news rfl ?qc1 ?qc2 ?qc3 ?qc4 ?qc5 ?qc6 ?qc7)
 case qc1 => exact hl
 case qc2 =>
  intro j u hj
  exact Lib.cell?_alloc_some _ (A.out j u hj)
 case qc3 => exact h1
 case qc4 => rw [Nat.zero_add]; exact hn
 case qc5 => rw [Nat.zero_add]; exact hbig
 case qc6 => simp
 intro v' w1 hown hgrow hnil
 go_wp2
 go_ret
 refine ⟨v', rfl, by simpa using hown, ?_⟩
 exact ((Below.refl _ w).alloc (qi _) _).grown hgrow (by simp) (by intro k hk; simp [Value.ownBlock] at hk; omega)
end
theorem zafr : ∀ (c : C), c.toB.closed = true
 | .v _ => rfl
 | .sl _ _ _ => rfl
theorem zyv : ∀ (e : ETy) (x : den e), (encC e x).length = sz e
 | .int _, _ => rfl
 | .bool, _ => rfl
 | .str, _ => rfl
 | .pair a b, x => by simp only [encC, ql, zyv a, zyv b, sz]
 | .list _ _, _ => rfl
theorem zapr (e : ETy) (xs : List (den e)) : (xs.flatMap (encC e)).length = xs.length * sz e := by
 induction xs with
 | nil => simp
 | cons x t ih => rw [List.flatMap_cons, ql, ih, zyv, qk, Nat.succ_mul, Nat.add_comm]
theorem ReadC.news {w : World} {S : Bool → Nat → Prop} {ad : Addr} {cs : List C} (h : ReadC w S ad cs) : ∃ news : List Value, news.length = cs.length ∧ (∀ j u, news[j]? = some u → w.cell? (ad.add j) = some u) ∧ ∀ (i : Nat) (c : C) (y : Value), cs[i]? = some c → news[i]? = some y → RC w S c y := by
 refine ⟨(List.range cs.length).map fun i => (w.cell? (ad.add i)).getD (.bool false), by simp, ?_, ?_⟩
 ·intro j u hj
  rw [qn] at hj
  obtain ⟨i, hi, hu⟩ := qf.1 hj
  obtain ⟨hlt, rfl⟩ := qh.1 hi
  simp only [List.getElem_range] at hu
  simp only [List.length_range] at hlt
  obtain ⟨x, hx, _⟩ := h j cs[j] (qb hlt)
  rw [hx] at hu ⊢
  exact congrArg some hu
 ·intro i c y hc hy
  rw [qn] at hy
  obtain ⟨i', hi', hu⟩ := qf.1 hy
  obtain ⟨hlt, rfl⟩ := qh.1 hi'
  simp only [List.getElem_range] at hu
  obtain ⟨x, hx, hr⟩ := h i c hc
  rw [hx] at hu
  exact hu ▸ hr
theorem zbi1 {w : World} {S : Bool → Nat → Prop} {e : ETy} (he : e.ok = true) {xs : List (den e)} {i : Nat} {c : C} {y : Value} (hc : (xs.flatMap (encC e))[i]? = some c) (h : RC w S c y) : y.oneCell' = true := by
 have key : ∀ (e : ETy) (x : den e) c, c ∈ encC e x → ∀ y, RC w S c y → y.oneCell' = true := by
  intro e
  induction e with
  | int k => intro x c hc y hr; simp only [encC, List.mem_singleton] at hc; subst hc; cases hr; rfl
  | bool => intro x c hc y hr; simp only [encC, List.mem_singleton] at hc; subst hc; cases hr; rfl
  | str => intro x c hc y hr; simp only [encC, List.mem_singleton] at hc; subst hc; cases hr; rfl
  | pair a b iha ihb => intro x c hc y hr; simp only [encC, kg] at hc; rcases hc with hc | hc; exact iha _ _ hc _ hr; exact ihb _ _ hc _ hr
  | list e ih => intro x c hc y hr; simp only [encC, List.mem_singleton] at hc; subst hc; obtain ⟨a, cap, rfl, _⟩ := hr; rfl
 obtain ⟨x, hx, hm⟩ := List.mem_flatMap.1 (qp hc)
 exact key e x c hm y h
theorem zyh {P : Program} {f : FuncId} (hF : zfw P f) {ρr : Ren} (hf : ρr.f 41 = f) (L : SlLaysE0.n41 P ρr) {e : ETy} (he : e.ok = true) (i0 : TypeInfo) (z : Value) (bytes : Nat) (hi : P.info? (ρr.t 23) = some i0) (hz0 : i0.zero = some z) (hz1 : i0.size = sz e) (hz2 : i0.bytes = bytes) (hzs : z.cells.size = sz e) (hsz : 0 < sz e)
  (z23 : ∀ w, (Go.sizeOf (ρr.t 23)).run P w = .ok (sz e) w) :
  FOK P f ⟨[.one (.sl e false false)], []⟩ [⟨[.one (.rw 0 0)], [.row 0 e]⟩] (fun xs => if xs.length ≤ maxLen ∧ xs.length * bytes ≤ 140737488355328 then some ((), xs) else none) := by
 intro (xs : List (den e)) o h
 simp only at h
 split at h
 ·rename_i hb
  cases h
  refine ⟨hF, fun w ρ vs hm hal hargs => ?_⟩
  have hm : Mem w ρ ([] : Tab) := hm
  have hargs : RVs w ρ ([] : Tab) [.g (.b (.ro xs.length (xs.flatMap (encC e)) false false))] vs := hargs
  obtain ⟨hlen, hargs⟩ := hargs
  match vs, hlen with
  | [y], _ =>
   have hy := hargs 0 _ y rfl rfl
   obtain ⟨a, cap, rfl, hn, _, hcs⟩ := hy
   have hnews : ∃ news : List Value, news.length = (xs.flatMap (encC e)).length ∧ (∀ ad, a = some ad → ∀ j u, news[j]? = some u → w.cell? (ad.add j) = some u) ∧
     ∀ (i : Nat) (c : C) (y : Value), (xs.flatMap (encC e))[i]? = some c → news[i]? = some y → RC w (fun l => zbw l w ρ []) c y := by
    rcases hcs with h0 | ⟨ad, rfl, _, hrd⟩
    ·rw [h0]
     exact ⟨[], rfl, fun ad _ j u hj => by simp at hj, fun i c y hc => by simp at hc⟩
    ·obtain ⟨news, g1, g2, g3⟩ := hrd.news
     exact ⟨news, g1, fun ad' h => by cases h; exact g2, g3⟩
   obtain ⟨news, g1, g2, g3⟩ := hnews
   have g4 : news.length = xs.length * sz e := g1.trans (zapr e xs)
   have g5 : ∀ u ∈ news, u.oneCell' = true := by
    intro u hu
    obtain ⟨i, hi⟩ := List.getElem?_of_mem hu
    have hlt : i < (xs.flatMap (encC e)).length := by rw [← g1]; exact (qh.1 hi).1
    exact zbi1 he (qb hlt) (g3 i _ u (qb hlt) hi)
   have fin : ∀ (w' : World) (v : Value), Below w.heap.size w w' → w'.ownsRow w.heap.size (ρr.t 23) (sz e) v xs.length news → ∃ x ρ', Ending.returned v = Ending.returned x ∧ Step w ρ [] w' ρ' [.live ⟨0, sz e, true, xs.flatMap (encB e)⟩] ∧ RV w' ρ' [.live ⟨0, sz e, true, xs.flatMap (encB e)⟩] (.g (.b (.rf 0 0 0 xs.length))) x := by
    intro w' v hb ho
    have hmap : xs.flatMap (encB e) = (xs.flatMap (encC e)).map C.toB := by
     rw [List.map_flatMap]; congr 1; funext x; exact (zjy e x he).symm
    have h := Step.row (cells := xs.flatMap (encB e)) hm hb hsz ho (by rw [hmap, km, g1]) (by
     intro i x y hx hy
     rw [hmap, qn] at hx
     obtain ⟨c, hc, rfl⟩ := qf.1 hx
     exact za6b (g3 i c y hc hy)) (by
     intro x hx
     rw [hmap] at hx
     obtain ⟨c, _, rfl⟩ := List.mem_map.1 hx
     exact zafr c)
    obtain ⟨ρ', h1, h2⟩ := h
    exact ⟨v, ρ', rfl, h1, h2⟩
   have post : ∀ (w' : World) (v : Value), Below w.heap.size w w' → w'.ownsRow w.heap.size (ρr.t 23) (sz e) v xs.length news → ∃ x ρ', Ending.returned v = Ending.returned x ∧ Step w ρ (zaf (FSh.tab ⟨[.one (.sl e false false)], []⟩ xs)) w' ρ' (zaf (FOs.emb [⟨[.one (.rw 0 0)], [.row 0 e]⟩] ((), xs)).2) ∧ RV w' ρ' (zaf (FOs.emb [⟨[.one (.rw 0 0)], [.row 0 e]⟩] ((), xs)).2) (FOs.emb [⟨[.one (.rw 0 0)], [.row 0 e]⟩] ((), xs)).1.raw x := fun w' v hb ho => fin w' v hb ho
   cases a with
   | none =>
    have hc := AnyE.slices_Clone_nil L xs.length cap w
    rw [hf] at hc
    refine Calls.mono hc (fun e' w' h => ?_)
    obtain ⟨rfl, rfl⟩ := h
    have h0 : news = [] := by
     rcases hcs with h0 | ⟨ad, h, _⟩
     ·rw [h0] at g1; exact ks g1
     ·cases h
    have hx : xs.length = 0 := by
     rw [h0] at g4
     rcases Nat.mul_eq_zero.1 g4.symm with h | h
     ·exact h
     ·omega
    exact post w' _ (Below.refl _ _) ⟨g4, .inl ⟨rfl, hx⟩⟩
   | some ad =>
    have hc := zaei L i0 z (sz e) bytes hi hz0 hz1 hz2 hzs hsz z23 ad xs.length cap news w g4 hb.1 hb.2 (g2 ad rfl) g5
    rw [hf] at hc
    refine Calls.mono hc (fun e' w' h => ?_)
    obtain ⟨v', rfl, ho, hbl⟩ := h
    exact post w' v' hbl ho
 ·cases h
end Go.Gm
