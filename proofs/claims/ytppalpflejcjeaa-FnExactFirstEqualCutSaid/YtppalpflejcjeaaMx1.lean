/- Plain lemmas on trees, loops and wrapped numbers. -/
import Derived.Test.YtppalpflejcjeaaGt14
import Derived.IntWalk
namespace Go.Gm
set_option linter.unusedVariables false

theorem w64_id {z : Int} (h1 : -9223372036854775808 ≤ z) (h2 : z ≤ 9223372036854775807) : w64 z = z := by
  exact IntWalk.i64_in z ⟨by omega, by omega⟩
theorem win_all {α : Type} (xs : List α) : win xs 0 xs.length = xs := by unfold win; simp
theorem win_take {α : Type} (xs : List α) (n : Nat) : win xs 0 n = xs.take n := by unfold win; simp
theorem win_sing {α : Type} (a : α) : win [a] 0 1 = [a] := rfl
theorem win_one {α : Type} (a b : α) : win (List.set (List.replicate 1 a) 0 b) 0 1 = [b] := rfl
theorem getElem?_lt {α : Type} {xs : List α} {k : Nat} {x : α} (h : xs[k]? = some x) : k < xs.length := (List.getElem?_eq_some_iff.1 h).1

section
variable {α β σ X : Type}
/-- Over a list, with a way out. -/
def forE (body : σ → X → σ ⊕ β) (fin : σ → β) : List X → σ → β
  | [], s => fin s
  | x :: t, s => match body s x with
    | .inl s' => forE body fin t s'
    | .inr o => o
theorem forE_nil (body : σ → X → σ ⊕ β) (fin : σ → β) (s : σ) : forE body fin [] s = fin s := rfl
theorem forE_cons (body : σ → X → σ ⊕ β) (fin : σ → β) (x : X) (t : List X) (s : σ) : forE body fin (x :: t) s = match body s x with
    | .inl s' => forE body fin t s'
    | .inr o => o := rfl
/-- A loop over a list's places. -/
theorem loop_list {step : α → Option (α ⊕ β)} {xs : List X} (emb : Nat → σ → α) (body : σ → X → σ ⊕ β) (fin : σ → β)
    (hs : ∀ k s x, xs[k]? = some x → step (emb k s) = some (match body s x with | .inl s' => .inl (emb (k + 1) s') | .inr o => .inr o))
    (he : ∀ s, step (emb xs.length s) = some (.inr (fin s))) : ∀ k s, k ≤ xs.length → loopO step (emb k s) = some (forE body fin (xs.drop k) s) := by
  have key : ∀ n k s, n = xs.length - k → k ≤ xs.length → loopO step (emb k s) = some (forE body fin (xs.drop k) s) := by
    intro n
    induction n with
    | zero =>
      intro k s hn hk
      have : k = xs.length := by omega
      subst this
      rw [loopO_step, he, List.drop_length]
      rfl
    | succ n ih =>
      intro k s hn hk
      have hlt : k < xs.length := by omega
      rw [loopO_step, hs k s xs[k] (List.getElem?_eq_getElem hlt), List.drop_eq_getElem_cons hlt, forE_cons]
      cases hb : body s xs[k] with
      | inl s' => simp only []; exact ih (k + 1) s' (by omega) (by omega)
      | inr o => rfl
  exact fun k s hk => key _ k s rfl hk
/-- A loop that counts. -/
theorem loop_count {step : α → Option (α ⊕ β)} {n : Nat} (emb : Nat → σ → α) (body : σ → Nat → σ ⊕ β) (fin : σ → β)
    (hs : ∀ k s, k < n → step (emb k s) = some (match body s k with | .inl s' => .inl (emb (k + 1) s') | .inr o => .inr o))
    (he : ∀ s, step (emb n s) = some (.inr (fin s))) (k : Nat) (s : σ) (hk : k ≤ n) : loopO step (emb k s) = some (forE body fin ((List.range n).drop k) s) :=
  loop_list (xs := List.range n) emb body fin (fun k s x hx => by
    obtain ⟨h1, h2⟩ := List.getElem?_eq_some_iff.1 hx
    simp only [List.getElem_range] at h2
    subst h2
    exact hs k s (by simpa using h1)) (by simpa using he) k s (by simpa using hk)
theorem loopO_next {step : α → Option (α ⊕ β)} {v v' : α} (h : step v = some (.inl v')) : loopO step v = loopO step v' := by rw [loopO_step, h]
theorem loopO_done {step : α → Option (α ⊕ β)} {v : α} {o : β} (h : step v = some (.inr o)) : loopO step v = some o := by rw [loopO_step, h]
/-- A loop that ends, by a measure. -/
theorem loop_eq {step : α → Option (α ⊕ β)} (μ : α → Nat) (P : α → Prop) (g : α → β)
    (h : ∀ v, P v → (∃ v', step v = some (.inl v') ∧ P v' ∧ μ v' < μ v ∧ g v' = g v) ∨ step v = some (.inr (g v))) : ∀ v, P v → loopO step v = some (g v) := by
  have key : ∀ n v, μ v ≤ n → P v → loopO step v = some (g v) := by
    intro n
    induction n with
    | zero =>
      intro v hn hP
      rcases h v hP with ⟨v', _, _, h3, _⟩ | h
      · omega
      · rw [loopO_step, h]
    | succ n ih =>
      intro v hn hP
      rcases h v hP with ⟨v', h1, h2, h3, h4⟩ | h
      · rw [loopO_step, h1]
        simp only []
        rw [ih v' (by omega) h2, h4]
      · rw [loopO_step, h]
  exact fun v hP => key _ v (Nat.le_refl _) hP
/-- .. whose end is told by a relation. -/
theorem loop_rel {step : α → Option (α ⊕ β)} (μ : α → Nat) (P : α → Prop) (Q : β → Prop)
    (h : ∀ v, P v → (∃ v', step v = some (.inl v') ∧ P v' ∧ μ v' < μ v) ∨ ∃ o, step v = some (.inr o) ∧ Q o) : ∀ v, P v → ∃ o, loopO step v = some o ∧ Q o := by
  have key : ∀ n v, μ v ≤ n → P v → ∃ o, loopO step v = some o ∧ Q o := by
    intro n
    induction n with
    | zero =>
      intro v hn hP
      rcases h v hP with ⟨v', _, _, h3⟩ | ⟨o, h1, h2⟩
      · omega
      · exact ⟨o, by rw [loopO_step, h1], h2⟩
    | succ n ih =>
      intro v hn hP
      rcases h v hP with ⟨v', h1, h2, h3⟩ | ⟨o, h1, h2⟩
      · obtain ⟨o, ho, hq⟩ := ih v' (by omega) h2
        exact ⟨o, by rw [loopO_step, h1]; exact ho, hq⟩
      · exact ⟨o, by rw [loopO_step, h1], h2⟩
  exact fun v hP => key _ v (Nat.le_refl _) hP
/-- A loop that gathers over a list, under an invariant. -/
theorem loop_fold {step : α → Option (α ⊕ β)} {xs : List X} (P : Nat → σ → Prop) (emb : Nat → σ → α) (g : σ → X → σ) (fin : σ → β)
    (hs : ∀ k s x, P k s → xs[k]? = some x → step (emb k s) = some (.inl (emb (k + 1) (g s x))) ∧ P (k + 1) (g s x))
    (he : ∀ s, P xs.length s → step (emb xs.length s) = some (.inr (fin s))) (s0 : σ) (h0 : P 0 s0) : loopO step (emb 0 s0) = some (fin (xs.foldl g s0)) ∧ P xs.length (xs.foldl g s0) := by
  have key : ∀ n k s, n = xs.length - k → k ≤ xs.length → P k s → loopO step (emb k s) = some (fin ((xs.drop k).foldl g s)) ∧ P xs.length ((xs.drop k).foldl g s) := by
    intro n
    induction n with
    | zero =>
      intro k s hn hk hP
      have : k = xs.length := by omega
      subst this
      rw [loopO_step, he s hP, List.drop_length]
      exact ⟨rfl, hP⟩
    | succ n ih =>
      intro k s hn hk hP
      have hlt : k < xs.length := by omega
      obtain ⟨h1, h2⟩ := hs k s xs[k] hP (List.getElem?_eq_getElem hlt)
      rw [loopO_step, h1, List.drop_eq_getElem_cons hlt]
      exact ih (k + 1) _ (by omega) (by omega) h2
  have := key _ 0 s0 rfl (Nat.zero_le _) h0
  simpa using this
/-- A loop that looks for a place. -/
theorem loop_find {step : α → Option (α ⊕ β)} {xs : List X} (p : X → Bool) (emb : Nat → α) (hit : Nat → β) (miss : β)
    (hs : ∀ k x, xs[k]? = some x → step (emb k) = some (if p x then .inr (hit k) else .inl (emb (k + 1)))) (he : step (emb xs.length) = some (.inr miss)) :
    loopO step (emb 0) = some (match xs.findIdx? p with | some i => hit i | none => miss) := by
  have key : ∀ n k, n = xs.length - k → k ≤ xs.length → loopO step (emb k) = some (match (xs.drop k).findIdx? p with | some i => hit (k + i) | none => miss) := by
    intro n
    induction n with
    | zero =>
      intro k hn hk
      have : k = xs.length := by omega
      subst this
      rw [loopO_step, he, List.drop_length]
      rfl
    | succ n ih =>
      intro k hn hk
      have hlt : k < xs.length := by omega
      rw [loopO_step, hs k xs[k] (List.getElem?_eq_getElem hlt), List.drop_eq_getElem_cons hlt, List.findIdx?_cons]
      cases hp : p xs[k] with
      | true => simp
      | false =>
        simp only [Bool.false_eq_true, if_false]
        rw [ih (k + 1) (by omega) (by omega)]
        cases (xs.drop (k + 1)).findIdx? p with
        | none => rfl
        | some i => simp only [Option.map_some]; rw [show k + 1 + i = k + (i + 1) by omega]
  have := key _ 0 rfl (Nat.zero_le _)
  simpa using this
theorem findIdx?_any (p : X → Bool) (xs : List X) : (xs.findIdx? p).isSome = xs.any p := by
  induction xs with
  | nil => rfl
  | cons x t ih =>
    rw [List.findIdx?_cons, List.any_cons]
    cases hp : p x <;> simp [ih]
theorem loop_any {step : α → Option (α ⊕ β)} {xs : List X} (p : X → Bool) (emb : Nat → α) (hit miss : β)
    (hs : ∀ k x, xs[k]? = some x → step (emb k) = some (if p x then .inr hit else .inl (emb (k + 1)))) (he : step (emb xs.length) = some (.inr miss)) :
    loopO step (emb 0) = some (if xs.any p then hit else miss) := by
  rw [loop_find p emb (fun _ => hit) miss hs he, ← findIdx?_any]
  cases xs.findIdx? p <;> rfl
/-- The first place, or -1. -/
def idxI (p : X → Bool) (xs : List X) : Int := match xs.findIdx? p with | some i => (i : Int) | none => -1
theorem idxI_ge (p : X → Bool) (xs : List X) : decide (idxI p xs ≥ 0) = xs.any p := by
  unfold idxI
  rw [← findIdx?_any]
  cases xs.findIdx? p <;> simp
end
/-- Between two bounds. -/
def inB (lo hi n : Int) : Bool := decide (lo ≤ n ∧ n ≤ hi)
theorem inB_iff {lo hi n : Int} : inB lo hi n = true ↔ lo ≤ n ∧ n ≤ hi := by simp [inB]
theorem all_any {X : Type} (p : X → Bool) (xs : List X) : (!xs.any fun x => !p x) = xs.all p := by
  induction xs with
  | nil => rfl
  | cons x t ih => simp only [List.any_cons, List.all_cons, Bool.not_or, Bool.not_not, ih]
theorem zip_any_ne {X : Type} [BEq X] [LawfulBEq X] [DecidableEq X] : ∀ (a b : List X), a.length = b.length → (a.zip b).any (fun p => p.1 != p.2) = !decide (a = b)
  | [], [], _ => by simp
  | [], _ :: _, h => by simp at h
  | _ :: _, [], h => by simp at h
  | x :: a, y :: b, h => by
    rw [List.zip_cons_cons, List.any_cons, zip_any_ne a b (by simpa using h)]
    by_cases e : x = y
    · subst e; simp
    · simp [e]
theorem mul_le {a b A B : Int} (h1 : -A ≤ a) (h2 : a ≤ A) (h3 : -B ≤ b) (h4 : b ≤ B) : -(A * B) ≤ a * b ∧ a * b ≤ A * B := by
  have e : a.natAbs * b.natAbs ≤ A.natAbs * B.natAbs := Nat.mul_le_mul (by omega) (by omega)
  rw [← Int.natAbs_mul, ← Int.natAbs_mul] at e
  have hp : 0 ≤ A * B := Int.mul_nonneg (by omega) (by omega)
  omega
theorem beq_int (a b : Int) : (a == b) = decide (a = b) := by
  by_cases h : a = b <;> simp [h]
theorem T.run_ret {α : Type} (a : α) : (T.ret a).run = some a := rfl
theorem T.run_fail {α : Type} : (T.fail : T α).run = none := rfl
theorem T.run_test {α : Type} (c : Bool) (t e : T α) : (T.test c t e).run = if c then t.run else e.run := rfl
theorem T.run_sub {α β : Type} (x : Option β) (k : β → T α) : (T.sub x k).run = x.bind fun b => (k b).run := rfl

end Go.Gm
