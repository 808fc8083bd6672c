import Derived.Test.YtpkbjabnchfgjaaGreatDoorWGr1
import Derived.ShutString
import Derived.ChangeOld
import Derived.Below
import Derived.ChangeCalls
namespace Go.Gm
set_option linter.unusedVariables false
set_option linter.unusedSimpArgs false
open Go.WideShapes Go.RowKit Go.ChangeShapes Go.ChangeAt
section
variable {H : Type} {enc : TypeId × Value → H} {P : Program} {w : World} {base : Nat} {spare : Nat → Bool} {held : Bool}
theorem zvd {fs : List TypeId} {ds : List (DataW H)} {i : Nat} {t : TypeId} {d : DataW H} (h1 : fs[i]? = some t) (h2 : ds[i]? = some d) : ∀ k ∈ d.weights P t, k ∈ DataW.weightsEach P fs ds := by
 induction fs generalizing ds i with
 | nil => simp at h1
 | cons f fs ih =>
  cases ds with
  | nil => simp at h2
  | cons d' ds =>
   intro k hk
   simp only [DataW.weightsEach, kg]
   cases i with
   | zero => simp at h1 h2; subst h1 h2; exact .inl hk
   | succ i => exact .inr (ih (by simpa using h1) (by simpa using h2) k hk)
theorem zvr {lo : Bool} {m n : Nat} {cs : List Value} {ρ : Rho} (hlo : lo = true → ∀ b, ¬ ρ.out b) : ∀ (fs : List Field) (o : Nat) (l : List Sh), zsr P lo m fs o cs.length = some l →
  (∀ f ∈ fs, ∃ x : DataW H × List MemPlace, DataW.trod enc P w 0 spare held n f.type ((cs.drop f.offset).take (P.cellsOf f.type)) = some x ∧ ∀ k ∈ x.1.weights P f.type, k ≤ reachBytes) →
  ∃ v : denL l, RL (RB w ρ []) ((encL [] l v).map TB.raw) (cs.drop o) ∧ zw1 Sh.small l v
 | [], o, l, h, hf => by
  simp only [zsr] at h
  split at h
  ·rename_i hc
   cases h
   refine ⟨(), ?_, trivial⟩
   rw [hc, List.drop_length]
   exact ⟨rfl, fun i x y hx => by simp [encL, zbk] at hx⟩
  ·cases h
 | f :: t, o, l, h, hf => by
  simp only [zsr] at h
  split at h
  ·rename_i hc
   split at h
   ·rename_i a b ha hb
    cases h
    obtain ⟨x, hx, hsz⟩ := hf f (by simp)
    obtain ⟨v, y, hy, _, hr, hs⟩ := zaar (ρ := ρ) hlo ha hx hsz
    rw [hc.1, hc.2] at hy
    obtain ⟨v2, hr2, hs2⟩ := zvr (ρ := ρ) hlo t (o + 1) b hb (fun f' hf' => hf f' (qv _ hf'))
    have hd : cs.drop o = y :: cs.drop (o + 1) := by
     have := List.take_append_drop 1 (cs.drop o)
     rw [hy, List.drop_drop] at this
     exact this.symm
    cases b with
    | nil =>
     refine ⟨v, ?_, hs⟩
     rw [hd]
     have : cs.drop (o + 1) = [] := by
      have := hr2.1
      simp [encL, zbk] at this
      exact List.drop_eq_nil_of_le (by omega)
     rw [this]
     exact RL.cons hr ⟨rfl, fun i x y hx => by simp at hx⟩
    | cons b0 b =>
     refine ⟨(v, v2), ?_, hs, hs2⟩
     rw [hd]
     exact RL.cons hr hr2
   ·cases h
  ·cases h
theorem zbi5 {lo : Bool} {m : Nat} {t : TypeId} {a : ASh} {v : Value} {d : DataW H} {ps : List MemPlace} {ρ : Rho} (hlo : lo = true → ∀ b, ¬ ρ.out b) (ha : argT P lo m t = some a) (hok : Value.okWide P w .any base t v) (hx : DataW.Trod enc P w 0 spare held t v d ps) (hsz : ∀ k ∈ d.weights P t, k ≤ reachBytes) :
  ∃ x : a.den, RV w ρ [] (a.enc [] x).raw v ∧ a.small x := by
 obtain ⟨n, hx⟩ := hx
 unfold argT at ha
 split at ha
 ·rename_i fs hu
  obtain ⟨l, hl, rfl⟩ := qf.1 ha
  obtain ⟨cs, rfl, hcs⟩ := okWide_struct hu hok
  obtain ⟨xs, n', rfl, hxe, hlen, hl2, hf⟩ := DataW.trod_struct hu hx
  rw [← hlen] at hl
  have := zvr (ρ := ρ) (enc := enc) (w := w) (spare := spare) (held := held) (n := n') hlo fs.toList 0 l hl (fun f hm => by
   obtain ⟨i, hi, rfl⟩ := List.getElem_of_mem hm
   have hi' : i < fs.size := by simpa using hi
   have h1 := hf i (fs.toList[i]) (by simp)
   refine ⟨xs[i]'(by omega), by rw [h1]; exact qb _, fun k hk => hsz k ?_⟩
   simp only [qr] at hxe
   rw [hxe.1]
   simp only [DataW.weights, hu]
   exact zvd (i := i) (by simp [hi']) (by simp [show i < xs.length by omega]) k hk)
  obtain ⟨x, hr, hs⟩ := this
  refine ⟨x, ⟨cs, rfl, ?_⟩, hs⟩
  have hr : RL (RB w ρ []) (List.map TB.raw (encL [] l x)) (cs.toList.drop 0) := hr
  rw [List.drop_zero] at hr
  exact hr
 ·rename_i hns
  obtain ⟨h, hh, rfl⟩ := qf.1 ha
  obtain ⟨x, y, hy, hag, hr, hs⟩ := zaar (ρ := ρ) hlo hh hx hsz
  refine ⟨x, ?_, hs⟩
  have : v = y := by
   cases v with
   | agg cs =>
    exfalso
    unfold zapb at hh
    split at hh
    ·rename_i hu; obtain ⟨z, hz⟩ := okWide_int hu hok; cases hz
    ·rename_i hu; obtain ⟨z, hz⟩ := okWide_bool hu hok; cases hz
    ·rename_i hu; obtain ⟨z, hz⟩ := okWide_string hu hok; cases hz
    ·rename_i hu; obtain ⟨_, _, _, hz⟩ := okWide_slice hu hok; cases hz
    ·cases hh
   | _ => simpa [Value.cells] using hy
  subst this
  exact hr
def argsT (P : Program) (lo : Bool) (m : Nat) : List TypeId → List ASh → Bool
 | [], [] => true
 | t :: ts, a :: as => (match argT P lo m t with
  | some b => sameA a b
  | none => false) && argsT P lo m ts as
 | _, _ => false
where
 sameS : Sh → Sh → Bool
  | .si k, .si k' => decide (k = k')
  | .sb, .sb => true
  | .ss, .ss => true
  | .sl e ex lo, .sl e' ex' lo' => decide (e = e' ∧ ex = ex' ∧ lo = lo')
  | _, _ => false
 sameL : List Sh → List Sh → Bool
  | [], [] => true
  | a :: as, b :: bs => sameS a b && sameL as bs
  | _, _ => false
 sameA : ASh → ASh → Bool
  | .one a, .one b => sameS a b
  | .ag a, .ag b => sameL a b
  | _, _ => false
theorem zack {a b : Sh} (h : argsT.sameS a b = true) : a = b := by
 cases a <;> cases b <;> simp [argsT.sameS] at h <;> first | rfl | (subst h; rfl) | (obtain ⟨rfl, rfl, rfl⟩ := h; rfl)
theorem zacj : ∀ {a b : List Sh}, argsT.sameL a b = true → a = b
 | [], [], _ => rfl
 | [], _ :: _, h => by cases h
 | _ :: _, [], h => by cases h
 | a :: as, b :: bs, h => by
  simp only [argsT.sameL, qo] at h
  rw [zack h.1, zacj h.2]
theorem za1x {a b : ASh} (h : argsT.sameA a b = true) : a = b := by
 cases a <;> cases b <;> simp [argsT.sameA] at h
 ·rw [zack h]
 ·rw [zacj h]
theorem zao5 {lo : Bool} {m : Nat} {ρ : Rho} (hlo : lo = true → ∀ b, ¬ ρ.out b) : ∀ {ts : List TypeId} {l : List ASh} {vs : List Value} {ds : List (DataW H)} {ps : List MemPlace}, argsT P lo m ts l = true → DataW.TrodAll enc P w 0 spare held ts vs ds ps →
  (∀ (j : Nat) t v, ts[j]? = some t → vs[j]? = some v → Value.okWide P w .any base t v) → (∀ k ∈ DataW.weightsEach P ts ds, k ≤ reachBytes) →
  ∃ x : Tup ASh.den l, RVs w ρ [] ((zbk (ASh.enc []) l x).map TV.raw) vs ∧ zw1 ASh.small l x
 | [], [], vs, ds, ps, h, ht, hok, hsz => by
  cases vs with
  | nil => exact ⟨(), ⟨rfl, fun i x y hx => by simp [zbk] at hx⟩, trivial⟩
  | cons v vs => cases ds <;> exact ht.elim
 | [], _ :: _, _, _, _, h, _, _, _ => by cases h
 | _ :: _, [], _, _, _, h, _, _, _ => by cases h
 | t :: ts, a :: l, vs, ds, ps, h, ht, hok, hsz => by
  simp only [argsT, qo] at h
  obtain ⟨h1, h2⟩ := h
  cases vs with
  | nil => exact ht.elim
  | cons v vs =>
   cases ds with
   | nil => exact ht.elim
   | cons d ds =>
    obtain ⟨p, q, g1, g2, _⟩ := ht
    split at h1
    ·rename_i b hb
     have := za1x h1
     subst this
     obtain ⟨x, hr, hs⟩ := zbi5 (ρ := ρ) hlo hb (hok 0 t v rfl rfl) g1 (fun k hk => hsz k (by simp only [DataW.weightsEach, kg]; exact .inl hk))
     obtain ⟨x2, hr2, hs2⟩ := zao5 (ρ := ρ) hlo h2 g2 (fun j t v h3 h4 => hok (j + 1) t v (by simpa using h3) (by simpa using h4)) (fun k hk => hsz k (by simp only [DataW.weightsEach, kg]; exact .inr hk))
     cases l with
     | nil =>
      refine ⟨x, ?_, hs⟩
      have : vs = [] := by
       have := hr2.1
       simp [zbk] at this
       exact ks this.symm
      subst this
      exact RL.cons hr ⟨rfl, fun i x y hx => by simp at hx⟩
     | cons b0 l => exact ⟨(x, x2), RL.cons hr hr2, hs, hs2⟩
    ·cases h1
theorem zat3 {W W' : World} (h : ∀ k, k < W.heap.size → W'.heap[k]? = W.heap[k]?) (h2 : W.heap.size ≤ W'.heap.size) {p : MemPlace} (hp : p.block < W.heap.size) : W.sameAt W' p := by
 cases p with
 | cell b o => exact World.cell?_of_block (w := W) (h b hp)
 | map b => exact h b hp
theorem zvm {W W' : World} (hl : laidOutB P = true) (h : ∀ k, k < W.heap.size → W'.heap[k]? = W.heap[k]?) (h2 : W.heap.size ≤ W'.heap.size) : ∀ {ts : List TypeId} {vs : List Value} {ds : List (DataW H)} {ps : List MemPlace},
  ts.all (fun t => P.readableRec t && decide (t < P.types.size)) = true → DataW.TrodAll enc P W 0 (fun _ => true) true ts vs ds ps → (∀ x ∈ ps, x.block < W.heap.size) →
  DataW.TrodAll enc P W' 0 (fun b => decide (b < W.heap.size)) true ts vs ds ps
 | [], [], [], ps, _, ht, _ => ht
 | [], [], _ :: _, _, _, ht, _ => ht.elim
 | [], _ :: _, [], _, _, ht, _ => ht.elim
 | [], _ :: _, _ :: _, _, _, ht, _ => ht.elim
 | _ :: _, [], [], _, _, ht, _ => ht.elim
 | _ :: _, [], _ :: _, _, _, ht, _ => ht.elim
 | _ :: _, _ :: _, [], _, _, ht, _ => ht.elim
 | t :: ts, v :: vs, d :: ds, ps, hr, ht, hlt => by
  obtain ⟨p, q, g1, g2, rfl⟩ := ht
  simp only [List.all_cons, qo, kf] at hr
  exact ⟨p, q, WideElems.Trod_stays hl hr.1.1 hr.1.2 g1 (fun x hx => zat3 h h2 (hlt x (List.mem_append_left _ hx))) (fun x hx => by simpa using hlt x (List.mem_append_left _ hx)),
   zvm hl h h2 hr.2 g2 (fun x hx => hlt x (List.mem_append_right _ hx)), rfl⟩
theorem zaeu {W W' : World} (h : ∀ k, k < W.heap.size → W'.heap[k]? = W.heap[k]?) (ho : W'.os = W.os) (hp : W'.output = W.output) (may : MemPlace → Prop) : W.keptBut W' may := by
 refine ⟨ho, hp, fun i hi => ?_⟩
 rw [h i hi]
 split <;> simp_all
end
abbrev zbce : List FO := [⟨[.one .sb], []⟩]
theorem zbc0 {H : Type} {enc : TypeId × Value → H} {P : Program} {f : FuncId} {fn : Func} {s : ChangeSpec} {l : List ASh} {F : Tup ASh.den l → Option Bool} {tb : TypeId} {lo : Bool} {m : Nat}
  (hl : laidOutB P = true) (hpar : fn.params.toList.all (fun t => P.readableRec t && decide (t < P.types.size)) = true) (hsh : argsT P lo m fn.params.toList l = true)
  (hret : fn.resultTypes = #[tb]) (htb : P.underlying tb = some .bool) (hvars : s.vars = [])
  (hs : ∀ ds : List (DataW H), ds.length = fn.params.size → s.fn H ds = { results := [.lit (.bool true)], args := ds })
  (hF : FOK P f ⟨l, []⟩ zbce F) (hT : ∀ v, zw1 ASh.small l v → F v = some true)
  {W : World} {base : Nat} {args : Array Value} {ds gs : List (DataW H)} {before : List MemPlace}
  (hval : ∀ (j : Nat) t v, fn.params[j]? = some t → args[j]? = some v → Value.okWide P W .any base t v)
  (hW : DataW.Whole enc P fn.params.toList s.vars false W args.toList ds gs before)
  (hsz : (DataW.weightsEach P (fn.params.toList ++ s.plain.varTypes P) (ds ++ gs)).all (· ≤ reachBytes) = true)
  (hglob : zaal W ∧ ∀ b ∈ zgf, b < W.heap.size) :
  Calls P f args W fun e W' => ∃ v, e = .returned v ∧ s.post enc P fn false true false false W args v W' := by
 have hW' := hW
 obtain ⟨p, q, hA, hV, rfl, _, _⟩ := hW
 rw [hvars] at hV
 have hg : gs = [] ∧ q = [] := by
  cases gs with
  | nil => exact ⟨rfl, hV⟩
  | cons g gs => exact hV.elim
 obtain ⟨rfl, rfl⟩ := hg
 have hlen := trodAll_length hA
 have hlt : ∀ y ∈ p, y.block < W.heap.size := fun y hy => hW'.lt y (by simp [hy])
 have hsz' : ∀ k ∈ DataW.weightsEach P fn.params.toList ds, k ≤ reachBytes := by
  intro k hk
  have hv0 : s.plain.varTypes P = [] := by
   have : s.plain.vars = [] := hvars
   unfold DataSpec.varTypes
   rw [this]; rfl
  rw [hv0] at hsz
  simp only [kq] at hsz
  simpa using qt.1 hsz k hk
 obtain ⟨x, hr, hsm⟩ := zao5 (ρ := ⟨fun _ => none, fun _ => False⟩) (base := base) (fun _ _ h => h) hsh hA (fun j t v h1 h2 => hval j t v (by simpa using h1) (by simpa using h2)) hsz'
 obtain ⟨_, hcall⟩ := hF x true (hT x hsm)
 have hmem : Mem W ⟨fun _ => none, fun _ => False⟩ [] := ⟨fun r rt h => by simp at h, fun r r' rt rt' b o o' h => by simp at h, fun b ⟨r, rt, o, h, _⟩ => by simp at h, fun b h => h.elim, hglob.1, fun b hb => ⟨hglob.2 b hb, fun ⟨r, rt, o, h, _⟩ => by simp at h⟩⟩
 refine (show Calls P f args.toList.toArray W _ from hcall W _ args.toList hmem (fun j e h => by simp [FSh.tab, encR, zbk, zaf] at h) hr).mono fun e W' ⟨v, ρ', he, st, hv⟩ => ⟨v, he, ?_⟩
 have hv : v = .bool true := hv
 subst hv
 have hblk : ∀ k, k < W.heap.size → W'.heap[k]? = W.heap[k]? := fun k hk => (st.ext.stab k ⟨hk, fun ⟨r, rt, o, h, _⟩ => by simp [FSh.tab, encR, zbk, zaf] at h⟩).2
 have hfn := hs ds (by rw [← Array.length_toList, hlen.2])
 simp only [kq] at hW'
 refine ⟨ds, [], p, [], p, [], by simpa using hW', ?_, ?_, ?_, zaeu hblk st.os st.output _, fun h => by cases h⟩
 ·simp only [kq, hfn, hret]
  exact trodAll_mk1 (shut_bool htb _)
 ·simp only [kq, hfn]
  exact zvm hl hblk st.size hpar hA hlt
 ·simp only [kq, hfn, hvars]
  rfl
end Go.Gm
