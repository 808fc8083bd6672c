import Derived.Test.YtpkbjabnchfgjaaGreatDoorWGt1
namespace Go.Gm
set_option linter.unusedSimpArgs false
set_option linter.unusedVariables false
theorem T.run_bind {α β : Type} : ∀ (p : T α) (f : α → T β), (p.bind f).run = p.run.bind fun a => (f a).run
 | .ret a, f => rfl
 | .fail, f => rfl
 | .test c t e, f => by
  simp only [T.bind, T.run]
  cases c
  ·exact T.run_bind e f
  ·exact T.run_bind t f
 | .sub x k, f => by
  simp only [T.bind, T.run]
  cases x with
  | none => rfl
  | some b => exact T.run_bind (k b) f
theorem T.bind_run {α β : Type} {p : T α} {f : α → T β} {b : β} (h : (p.bind f).run = some b) : ∃ a, p.run = some a ∧ (f a).run = some b := by
 rw [T.run_bind] at h
 exact qx.1 h
theorem TP.runF_bind {α β : Type} : ∀ (p : TP α) (f : α → TP β) (R : TTab) (t c : List Nat), (p.bind f).runF R t c = (p.runF R t c).bind fun r => (f r.1).runF r.2.1 r.2.2.1 r.2.2.2
 | .ret a, f, R, t, c => rfl
 | .fail, f, R, t, c => rfl
 | .get r k, f, R, t, c => by
  simp only [TP.bind, TP.runF]
  split
  ·exact TP.runF_bind _ f _ _ _
  ·rfl
 | .put r rt k, f, R, t, c => by
  simp only [TP.bind, TP.runF]
  split
  ·exact TP.runF_bind _ f _ _ _
  ·rfl
 | .del r k, f, R, t, c => by
  simp only [TP.bind, TP.runF]
  split
  ·exact TP.runF_bind _ f _ _ _
  ·rfl
 | .mk r rt k, f, R, t, c => by
  simp only [TP.bind, TP.runF]
  split
  ·exact TP.runF_bind _ f _ _ _
  ·rfl
 | .peek r k, f, R, t, c => by
  simp only [TP.bind, TP.runF]
  split
  ·exact TP.runF_bind _ f _ _ _
  ·exact TP.runF_bind _ f _ _ _
  ·rfl
 | .test b x y, f, R, t, c => by
  simp only [TP.bind, TP.runF, T.bind]
  rw [TP.runF_bind x, TP.runF_bind y]
 | .sub x k, f, R, t, c => by
  simp only [TP.bind, TP.runF, T.bind]
  congr 1
  funext b
  exact TP.runF_bind (k b) f R t c
theorem Pr.touched_bind {α β : Type} : ∀ (p : Pr α) (f : α → Pr β) (R : Tab) {a : α} {R1 : Tab}, p.run R = some (a, R1) → (p.bind f).touched R = p.touched R ++ (f a).touched R1 ∧ (p.bind f).changed R = p.changed R ++ (f a).changed R1
 | .ret a, f, R, b, R1, h => by obtain ⟨rfl, rfl⟩ := Pr.ret_run h; exact ⟨rfl, rfl⟩
 | .fail, f, R, b, R1, h => Pr.fail_run h
 | .get r k, f, R, b, R1, h => by
  obtain ⟨rt, hrt, h⟩ := Pr.get_run h
  obtain ⟨h1, h2⟩ := Pr.touched_bind (k rt) f R h
  simp only [Pr.bind, Pr.touched, Pr.changed, hrt, h1, h2]
  exact ⟨rfl, trivial⟩
 | .put r rt k, f, R, b, R1, h => by
  obtain ⟨rt0, hrt, h⟩ := Pr.put_run h
  obtain ⟨h1, h2⟩ := Pr.touched_bind k f _ h
  simp only [Pr.bind, Pr.touched, Pr.changed, hrt, h1, h2]
  exact ⟨rfl, rfl⟩
 | .del r k, f, R, b, R1, h => by
  obtain ⟨rt0, hrt, h⟩ := Pr.del_run h
  obtain ⟨h1, h2⟩ := Pr.touched_bind k f _ h
  simp only [Pr.bind, Pr.touched, Pr.changed, hrt, h1, h2]
  exact ⟨rfl, rfl⟩
 | .mk r rt k, f, R, b, R1, h => by
  obtain ⟨hrt, h⟩ := Pr.mk_run h
  obtain ⟨h1, h2⟩ := Pr.touched_bind k f _ h
  simp only [Pr.bind, Pr.touched, Pr.changed, hrt, h1, h2]
  exact ⟨rfl, rfl⟩
 | .peek r k, f, R, b, R1, h => by
  rcases Pr.peek_run h with ⟨rt, hrt, h⟩ | ⟨hrt, h⟩
  ·obtain ⟨h1, h2⟩ := Pr.touched_bind (k (some rt)) f R h
   simp only [Pr.bind, Pr.touched, Pr.changed, hrt, h1, h2]
   exact ⟨rfl, trivial⟩
  ·obtain ⟨h1, h2⟩ := Pr.touched_bind (k none) f R h
   simp only [Pr.bind, Pr.touched, Pr.changed, hrt, h1, h2]
   exact ⟨rfl, trivial⟩
def Sim {α β : Type} (p : TP α) (q : Pr β) (f : α → β) : Prop := ∀ R t c a R' t' c', (p.runF R t c).run = some (a, R', t', c') →
 q.run (zaf R) = some (f a, zaf R') ∧ t' = t ++ q.touched (zaf R) ∧ c' = c ++ q.changed (zaf R)
section
variable {α β γ δ : Type} {f : α → β}
theorem zeg {R : TTab} {r : Nat} {e : TEnt} (h : R[r]? = some e) : (zaf R)[r]? = some e.raw := by
 unfold zaf; rw [qn, h]; rfl
theorem zod {R : TTab} {r : Nat} {e : TEnt} : zaf (R.set r e) = (zaf R).set r e.raw := by
 unfold zaf; rw [List.map_set]
theorem Sim.ret {a : α} {b : β} (h : f a = b) : Sim (.ret a) (.ret b) f := by
 intro R t c a' R' t' c' hr
 simp only [TP.runF, T.run, qc, qr] at hr
 obtain ⟨rfl, rfl, rfl, rfl⟩ := hr
 simp [Pr.run, Pr.touched, Pr.changed, h]
theorem Sim.fail {q : Pr β} : Sim .fail q f := by intro R t c a' R' t' c' hr; cases hr
theorem Sim.get {r : Nat} {k : TRoot → TP α} {k' : Root → Pr β} (h : ∀ rt, Sim (k rt) (k' rt.raw) f) : Sim (.get r k) (.get r k') f := by
 intro R t c a' R' t' c' hr
 simp only [TP.runF] at hr
 split at hr
 ·rename_i rt hrt
  obtain ⟨h1, h2, h3⟩ := h rt _ _ _ _ _ _ _ hr
  have hg := zeg hrt
  simp only [TEnt.raw] at hg
  simp only [Pr.run, Pr.touched, Pr.changed, hg]
  exact ⟨h1, by rw [h2]; simp, h3⟩
 ·cases hr
theorem Sim.put {r : Nat} {rt : TRoot} {rt' : Root} {k : TP α} {k' : Pr β} (e : rt' = rt.raw) (h : Sim k k' f) : Sim (.put r rt k) (.put r rt' k') f := by
 subst e
 intro R t c a' R' t' c' hr
 simp only [TP.runF] at hr
 split at hr
 ·rename_i rt0 hrt
  obtain ⟨h1, h2, h3⟩ := h _ _ _ _ _ _ _ hr
  have hg := zeg hrt
  simp only [TEnt.raw] at hg
  rw [zod] at h1 h2 h3
  simp only [TEnt.raw] at h1 h2 h3
  simp only [Pr.run, Pr.touched, Pr.changed, hg]
  exact ⟨h1, by rw [h2]; simp, by rw [h3]; simp⟩
 ·cases hr
theorem Sim.del {r : Nat} {k : TP α} {k' : Pr β} (h : Sim k k' f) : Sim (.del r k) (.del r k') f := by
 intro R t c a' R' t' c' hr
 simp only [TP.runF] at hr
 split at hr
 ·rename_i rt0 hrt
  obtain ⟨h1, h2, h3⟩ := h _ _ _ _ _ _ _ hr
  have hg := zeg hrt
  simp only [TEnt.raw] at hg
  rw [zod] at h1 h2 h3
  simp only [TEnt.raw] at h1 h2 h3
  simp only [Pr.run, Pr.touched, Pr.changed, hg]
  exact ⟨h1, by rw [h2]; simp, by rw [h3]; simp⟩
 ·cases hr
theorem Sim.mk {r : Nat} {rt : TRoot} {rt' : Root} {k : TP α} {k' : Pr β} (e : rt' = rt.raw) (h : Sim k k' f) : Sim (.mk r rt k) (.mk r rt' k') f := by
 subst e
 intro R t c a' R' t' c' hr
 simp only [TP.runF] at hr
 split at hr
 ·rename_i hrt
  obtain ⟨h1, h2, h3⟩ := h _ _ _ _ _ _ _ hr
  have hg := zeg hrt
  simp only [TEnt.raw] at hg
  rw [zod] at h1 h2 h3
  simp only [TEnt.raw] at h1 h2 h3
  simp only [Pr.run, Pr.touched, Pr.changed, hg]
  exact ⟨h1, by rw [h2]; simp, by rw [h3]; simp⟩
 ·cases hr
theorem Sim.peek {r : Nat} {k : Option TRoot → TP α} {k' : Option Root → Pr β} (h : ∀ rt, Sim (k rt) (k' (rt.map TRoot.raw)) f) : Sim (.peek r k) (.peek r k') f := by
 intro R t c a' R' t' c' hr
 simp only [TP.runF] at hr
 split at hr
 ·rename_i rt hrt
  obtain ⟨h1, h2, h3⟩ := h (some rt) _ _ _ _ _ _ _ hr
  have hg := zeg hrt
  simp only [TEnt.raw] at hg
  simp only [Pr.run, Pr.touched, Pr.changed, hg]
  exact ⟨h1, by rw [h2]; simp, h3⟩
 ·rename_i hrt
  obtain ⟨h1, h2, h3⟩ := h none _ _ _ _ _ _ _ hr
  have hg := zeg hrt
  simp only [TEnt.raw] at hg
  simp only [Pr.run, Pr.touched, Pr.changed, hg]
  exact ⟨h1, by rw [h2]; simp, h3⟩
 ·cases hr
theorem Sim.test {c : Bool} {x y : TP α} {q : Pr β} (h1 : c = true → Sim x q f) (h2 : c = false → Sim y q f) : Sim (.test c x y) q f := by
 intro R t d a' R' t' c' hr
 simp only [TP.runF, T.run] at hr
 cases c
 ·exact h2 rfl _ _ _ _ _ _ _ hr
 ·exact h1 rfl _ _ _ _ _ _ _ hr
theorem Sim.guard {c : Bool} {x : TP α} {q : Pr β} (h1 : c = true → Sim x q f) : Sim (TP.guard c x) q f := Sim.test h1 fun _ => Sim.fail
theorem Sim.sub {γ : Type} {x : Option γ} {k : γ → TP α} {q : Pr β} (h : ∀ b, x = some b → Sim (k b) q f) : Sim (.sub x k) q f := by
 intro R t d a' R' t' c' hr
 simp only [TP.runF, T.run] at hr
 obtain ⟨b, hb, hr⟩ := qx.1 hr
 exact h b hb _ _ _ _ _ _ _ hr
theorem Sim.ofOpt {o : Option α} {o' : Option β} (h : ∀ a, o = some a → o' = some (f a)) : Sim (TP.ofOpt o) (Pr.ofOpt o') f := by
 cases o with
 | none => exact Sim.fail
 | some a => rw [h a rfl]; exact Sim.ret rfl
theorem Sim.bind {g : γ → δ} {p : TP γ} {q : Pr δ} {k : γ → TP α} {k' : δ → Pr β} (h : Sim p q g) (hk : ∀ a, Sim (k a) (k' (g a)) f) : Sim (p.bind k) (q.bind k') f := by
 intro R t c a' R' t' c' hr
 rw [TP.runF_bind] at hr
 obtain ⟨⟨a, R1, t1, c1⟩, h1, h2⟩ := T.bind_run hr
 obtain ⟨a1, a2, a3⟩ := h _ _ _ _ _ _ _ h1
 obtain ⟨b1, b2, b3⟩ := hk a _ _ _ _ _ _ _ h2
 obtain ⟨e1, e2⟩ := Pr.touched_bind q k' _ a1
 refine ⟨?_, ?_, ?_⟩
 ·rw [Pr.run_bind, a1]; exact b1
 ·rw [e1, ← List.append_assoc, ← a2]; exact b2
 ·rw [e2, ← List.append_assoc, ← a3]; exact b3
theorem Sim.iteF {c : Prop} [Decidable c] {x : TP α} {q : Pr β} (h : c → Sim x q f) : Sim (if c then x else .fail) q f := by
 by_cases hc : c
 ·rw [if_pos hc]; exact h hc
 ·rw [if_neg hc]; exact Sim.fail
theorem Sim.ite {c : Prop} [Decidable c] {x y : TP α} {q : Pr β} (h : c → Sim x q f) (h' : ¬ c → Sim y q f) : Sim (if c then x else y) q f := by
 by_cases hc : c
 ·rw [if_pos hc]; exact h hc
 ·rw [if_neg hc]; exact h' hc
theorem Sim.iteN {c : Prop} [Decidable c] {x : TP α} {q : Pr β} (h : ¬ c → Sim x q f) : Sim (if c then .fail else x) q f := by
 by_cases hc : c
 ·rw [if_pos hc]; exact Sim.fail
 ·rw [if_neg hc]; exact h hc
theorem Sim.pos {c : Prop} [Decidable c] {p : TP α} {x y : Pr β} (hc : c) (h : Sim p x f) : Sim p (if c then x else y) f := by rw [if_pos hc]; exact h
theorem Sim.neg {c : Prop} [Decidable c] {p : TP α} {x y : Pr β} (hc : ¬ c) (h : Sim p y f) : Sim p (if c then x else y) f := by rw [if_neg hc]; exact h
theorem Sim.congr {p : TP α} {q q' : Pr β} (h : Sim p q f) (e : q = q') : Sim p q' f := e ▸ h
end
theorem zvq {e e' : ETy} {xs : List (den e)} {ys : List (den e')} (h : zdg e e' xs = some ys) :
  (∃ h : e = e', ys = h ▸ xs) ∨ (xs = [] ∧ ys = []) := by
 unfold zdg at h
 split at h
 ·rename_i he; cases h; exact .inl ⟨he, rfl⟩
 ·split at h
  ·cases h; exact .inr ⟨rfl, rfl⟩
  ·cases h
theorem zek {e e' : ETy} {xs : List (den e)} {ys : List (den e')} (h : zdg e e' xs = some ys) :
  xs.length = ys.length ∧ xs.flatMap (encB e) = ys.flatMap (encB e') ∧ xs.flatMap (encC e) = ys.flatMap (encC e') := by
 rcases zvq h with ⟨he, rfl⟩ | ⟨rfl, rfl⟩
 ·subst he; exact ⟨rfl, rfl, rfl⟩
 ·exact ⟨rfl, rfl, rfl⟩
theorem zaaq {e e' : ETy} {xs : List (den e)} {ys : List (den e')} (h : zdg e e' xs = some ys) : e = e' ∨ (xs = [] ∧ ys = []) := by
 rcases zvq h with ⟨he, _⟩ | h
 ·exact .inl he
 ·exact .inr h
theorem zby : ∀ (e : ETy) (x : den e), (encC e x).length = sz e
 | .int _, _ => rfl
 | .bool, _ => rfl
 | .str, _ => rfl
 | .pair a b, x => by simp [encC, sz, zby a, zby b]
 | .list _ _, _ => rfl
theorem zam : ∀ (e : ETy) (x : den e), (encB e x).length = sz e
 | .int _, _ => rfl
 | .bool, _ => rfl
 | .str, _ => rfl
 | .pair a b, x => by simp [encB, sz, zam a, zam b]
 | .list _ _, _ => rfl
theorem zpp : ∀ (e : ETy), 0 < sz e
 | .int _ => Nat.one_pos
 | .bool => Nat.one_pos
 | .str => Nat.one_pos
 | .pair a b => by have := zpp a; simp only [sz]; omega
 | .list _ _ => Nat.one_pos
theorem zaay : ∀ (e : ETy) (x : den e), e.plain = true → (encV e x).map C.v = encC e x
 | .int _, _, _ => rfl
 | .bool, _, _ => rfl
 | .str, _, _ => rfl
 | .pair a b, x, h => by
  simp only [ETy.plain, qo] at h
  simp [encV, encC, zaay a _ h.1, zaay b _ h.2]
 | .list _ _, _, h => by simp [ETy.plain] at h
theorem zef {α β γ : Type} (f : α → List β) (g : β → γ) (xs : List α) : (xs.flatMap f).map g = xs.flatMap fun x => (f x).map g := List.map_flatMap ..
theorem zjy : ∀ (e : ETy) (x : den e), e.ok = true → (encC e x).map C.toB = encB e x
 | .int _, _, _ => rfl
 | .bool, _, _ => rfl
 | .str, _, _ => rfl
 | .pair a b, x, h => by
  simp only [ETy.ok, qo] at h
  simp [encC, encB, zjy a _ h.1, zjy b _ h.2]
 | .list lo e, xs, h => by
  simp only [encC, encB, qu, List.map_nil, C.toB]
  congr 2
  have hf : ∀ (l : List (den e)), (l.flatMap (encV e)).map B.v = (l.flatMap (encC e)).map C.toB := by
   intro l
   rw [zef, zef]
   congr 1
   funext x
   rw [← zaay e x h]
   simp [C.toB, Function.comp_def]
  have hf2 : (xs.flatMap (encV e)).map C.v = xs.flatMap (encC e) := by
   rw [zef]
   congr 1
   funext x
   exact zaay e x h
  first
   | exact hf2
   | (rw [← hf2]; simp [Function.comp_def])
theorem zacz {e : ETy} (h : e.ok = true) (xs : List (den e)) : (xs.flatMap (encC e)).map C.toB = xs.flatMap (encB e) := by
 rw [zef]
 congr 1
 funext x
 exact zjy e x h
section
variable {α β : Type} {f : α → List β} {n : Nat}
theorem za3 (hf : ∀ x, (f x).length = n) (xs : List α) : (xs.flatMap f).length = xs.length * n := by
 induction xs with
 | nil => simp
 | cons x xs ih => simp [hf, ih, Nat.add_mul]; omega
theorem zs9 (hf : ∀ x, (f x).length = n) : ∀ (xs : List α) (k : Nat), (xs.flatMap f).drop (k * n) = (xs.drop k).flatMap f
 | xs, 0 => by simp
 | [], k + 1 => by simp
 | x :: xs, k + 1 => by
  rw [List.flatMap_cons, List.drop_append, hf, show (k + 1) * n - n = k * n by rw [Nat.add_mul]; omega, ke (by rw [hf, Nat.add_mul]; omega), zs9 hf xs k]
  simp
theorem zit (hf : ∀ x, (f x).length = n) : ∀ (xs : List α) (k : Nat), (xs.flatMap f).take (k * n) = (xs.take k).flatMap f
 | xs, 0 => by simp
 | [], k + 1 => by simp
 | x :: xs, k + 1 => by
  rw [List.flatMap_cons, List.take_append, hf, show (k + 1) * n - n = k * n by rw [Nat.add_mul]; omega, List.take_of_length_le (by rw [hf, Nat.add_mul]; omega), zit hf xs k]
  simp
theorem zlw (hf : ∀ x, (f x).length = n) (xs : List α) (a b : Nat) : win (xs.flatMap f) (a * n) (b * n) = (win xs a b).flatMap f := by
 unfold win
 rw [zs9 hf, zit hf]
theorem zvw {xs : List α} {i : Nat} {x : α} (h : xs[i]? = some x) : ∃ l r, xs = l ++ x :: r ∧ l.length = i := by
 refine ⟨xs.take i, xs.drop (i + 1), ?_, ?_⟩
 ·obtain ⟨hlt, rfl⟩ := qh.1 h
  simp
 ·have := (qh.1 h).1
  simp; omega
theorem zis (hf : ∀ x, (f x).length = n) {xs : List α} {i : Nat} {x : α} (h : xs[i]? = some x) {fo : Nat} (hk : fo ≤ n) : ∃ r, (xs.flatMap f).drop (i * n + fo) = (f x).drop fo ++ r := by
 obtain ⟨l, r, rfl, hl⟩ := zvw h
 refine ⟨r.flatMap f, ?_⟩
 have hlen : (l.flatMap f).length = i * n := by rw [za3 hf, hl]
 rw [List.flatMap_append, List.flatMap_cons, List.drop_append, hlen, ke (l := l.flatMap f) (by omega), show i * n + fo - i * n = fo by omega, qw]
 exact List.drop_append_of_le_length (by rw [hf]; exact hk)
theorem zta (hf : ∀ x, (f x).length = n) {xs : List α} {i : Nat} {x : α} (h : xs[i]? = some x) {fo k : Nat} (hk : fo + k ≤ n) : win (xs.flatMap f) (i * n + fo) k = win (f x) fo k := by
 obtain ⟨r, hr⟩ := zis hf h (fo := fo) (by omega)
 unfold win
 rw [hr, List.take_append_of_le_length (by rw [kb, hf]; omega)]
theorem zbcr (hf : ∀ x, (f x).length = n) {xs : List α} {i : Nat} {x : α} (h : xs[i]? = some x) {fo : Nat} (hk : fo < n) : (xs.flatMap f)[i * n + fo]? = (f x)[fo]? := by
 obtain ⟨r, hr⟩ := zis hf h (fo := fo) (by omega)
 have := congrArg (fun l => l[0]?) hr
 simp only [List.getElem?_drop, Nat.add_zero] at this
 rw [this, kn (by rw [kb, hf]; omega), List.getElem?_drop, Nat.add_zero]
theorem zaa1 (hf : ∀ x, (f x).length = n) {xs : List α} {i : Nat} {x y : α} (h : xs[i]? = some x) {fo : Nat} {cs : List β} (hk : fo + cs.length ≤ n) (hy : f y = (f x).take fo ++ (cs ++ (f x).drop (fo + cs.length))) :
  (xs.flatMap f).take (i * n + fo) ++ (cs ++ (xs.flatMap f).drop (i * n + fo + cs.length)) = (xs.set i y).flatMap f := by
 obtain ⟨l, r, rfl, hl⟩ := zvw h
 have e1 : (l ++ x :: r).set i y = l ++ y :: r := by rw [← hl]; simp
 rw [e1]
 simp only [List.flatMap_append, List.flatMap_cons, hy]
 have hlen : (l.flatMap f).length = i * n := by rw [za3 hf, hl]
 rw [List.take_append, List.drop_append, hlen, List.take_of_length_le (by omega), ke (l := l.flatMap f) (by omega)]
 rw [show i * n + fo - i * n = fo by omega, show i * n + fo + cs.length - i * n = fo + cs.length by omega]
 rw [List.take_append_of_le_length (by rw [hf]; omega), List.drop_append_of_le_length (by rw [hf]; omega)]
 simp
end
theorem zzo {α β : Type} (f : α → β) (l : List α) (a n : Nat) : (win l a n).map f = win (l.map f) a n := by
 unfold win; rw [List.map_take, List.map_drop]
theorem zeb : ∀ (e : ETy) (x : den e), (zf3 e x).map TB.raw = encB e x
 | .int _, _ => rfl
 | .bool, _ => rfl
 | .str, _ => rfl
 | .pair a b, x => by simp [zf3, encB, zeb a, zeb b]
 | .list _ _, _ => rfl
theorem zlm (e : ETy) (x : den e) : (zf3 e x).length = sz e := by
 rw [← zam e x, ← zeb, km]
theorem zyq : ∀ {e : ETy} {l r : List TB} {x : den e}, decE e l = some (x, r) → l.map TB.raw = encB e x ++ r.map TB.raw
 | .int k, l, r, x, h => by
  cases l with
  | nil => simp [decE] at h
  | cons y l =>
   cases y <;> try (simp [decE] at h; done)
   simp only [decE] at h
   split at h
   ·rename_i hk; cases h; subst hk; rfl
   ·cases h
 | .bool, l, r, x, h => by
  cases l with
  | nil => simp [decE] at h
  | cons y l => cases y <;> simp [decE] at h <;> (obtain ⟨rfl, rfl⟩ := h; rfl)
 | .str, l, r, x, h => by
  cases l with
  | nil => simp [decE] at h
  | cons y l => cases y <;> simp [decE] at h; (obtain ⟨rfl, rfl⟩ := h; rfl)
 | .pair a b, l, r, x, h => by
  simp only [decE] at h
  split at h
  ·rename_i x1 r1 h1
   split at h
   ·rename_i x2 r2 h2
    cases h
    rw [zyq h1, zyq h2]
    simp [encB]
   ·cases h
  ·cases h
 | .list lo e, l, r, x, h => by
  cases l with
  | nil => simp [decE] at h
  | cons y l =>
   cases y <;> try (simp [decE] at h; done)
   rename_i e' xs ex lo'
   cases ex <;> try (simp [decE] at h; done)
   simp only [decE] at h
   split at h
   ·rename_i hlo
    subst hlo
    obtain ⟨ys, hy, he⟩ := qf.1 h
    cases he
    obtain ⟨h1, _, h3⟩ := zek hy
    simp [TB.raw, encB, h1, h3]
   ·cases h
theorem zjf {e : ETy} {l : List TB} {x : den e} (h : zvv e l = some x) : l.map TB.raw = encB e x := by
 unfold zvv at h
 split at h
 ·rename_i y hy
  cases h
  have := zyq hy
  simpa using this
 ·cases h
theorem zgl : ∀ (e : ETy) (x : den e), ∀ y ∈ encB e x, y.closed = true ∧ y.isCell = true
 | .int _, _, y, h => by simp [encB] at h; subst h; exact ⟨rfl, rfl⟩
 | .bool, _, y, h => by simp [encB] at h; subst h; exact ⟨rfl, rfl⟩
 | .str, _, y, h => by simp [encB] at h; subst h; exact ⟨rfl, rfl⟩
 | .pair a b, x, y, h => by
  simp only [encB, kg] at h
  rcases h with h | h
  ·exact zgl a _ y h
  ·exact zgl b _ y h
 | .list _ _, _, y, h => by simp [encB] at h; subst h; exact ⟨rfl, rfl⟩
theorem zfq {e : ETy} {xs : List (den e)} : (xs.flatMap (encB e)).all B.closed = true ∧ (xs.flatMap (encB e)).all B.isCell = true := by
 constructor <;> (rw [qt]; intro y hy; obtain ⟨x, _, hx⟩ := List.mem_flatMap.1 hy; first | exact (zgl e x y hx).1 | exact (zgl e x y hx).2)
end Go.Gm
