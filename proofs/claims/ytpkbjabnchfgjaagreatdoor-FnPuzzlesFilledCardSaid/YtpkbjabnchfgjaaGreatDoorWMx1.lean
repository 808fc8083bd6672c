import Derived.Test.YtpkbjabnchfgjaaGreatDoorWGt14
import Derived.IntWalk
namespace Go.Gm
set_option linter.unusedVariables false
theorem zae {z : Int} (h1 : -9223372036854775808 ≤ z) (h2 : z ≤ 9223372036854775807) : w64 z = z := by
 exact IntWalk.i64_in z ⟨by omega, by omega⟩
theorem zap {α : Type} (xs : List α) : win xs 0 xs.length = xs := by unfold win; simp
theorem zfm {α : Type} (xs : List α) (n : Nat) : win xs 0 n = xs.take n := by unfold win; simp
theorem zac7 {α : Type} (a : α) : win [a] 0 1 = [a] := rfl
theorem zc9 {α : Type} (a b : α) : win (List.set (List.replicate 1 a) 0 b) 0 1 = [b] := rfl
theorem zai {α : Type} {xs : List α} {k : Nat} {x : α} (h : xs[k]? = some x) : k < xs.length := (qh.1 h).1
section
variable {α β σ X : Type}
def forE (body : σ → X → σ ⊕ β) (fin : σ → β) : List X → σ → β
 | [], s => fin s
 | x :: t, s => match body s x with
  | .inl s' => forE body fin t s'
  | .inr o => o
theorem z2q (body : σ → X → σ ⊕ β) (fin : σ → β) (x : X) (t : List X) (s : σ) : forE body fin (x :: t) s = match body s x with
  | .inl s' => forE body fin t s'
  | .inr o => o := rfl
theorem zah {step : α → Option (α ⊕ β)} {v v' : α} (h : step v = some (.inl v')) : zav step v = zav step v' := by rw [zb1, h]
theorem zag {step : α → Option (α ⊕ β)} {v : α} {o : β} (h : step v = some (.inr o)) : zav step v = some o := by rw [zb1, h]
theorem zbm {step : α → Option (α ⊕ β)} {xs : List X} (P : Nat → σ → Prop) (emb : Nat → σ → α) (g : σ → X → σ) (fin : σ → β)
  (hs : ∀ k s x, P k s → xs[k]? = some x → step (emb k s) = some (.inl (emb (k + 1) (g s x))) ∧ P (k + 1) (g s x))
  (he : ∀ s, P xs.length s → step (emb xs.length s) = some (.inr (fin s))) (s0 : σ) (h0 : P 0 s0) : zav step (emb 0 s0) = some (fin (xs.foldl g s0)) ∧ P xs.length (xs.foldl g s0) := by
 have key : ∀ n k s, n = xs.length - k → k ≤ xs.length → P k s → zav step (emb k s) = some (fin ((xs.drop k).foldl g s)) ∧ P xs.length ((xs.drop k).foldl g s) := by
  intro n
  induction n with
  | zero =>
   intro k s hn hk hP
   have : k = xs.length := by omega
   subst this
   rw [zb1, he s hP, List.drop_length]
   exact ⟨rfl, hP⟩
  | succ n ih =>
   intro k s hn hk hP
   have hlt : k < xs.length := by omega
   obtain ⟨h1, h2⟩ := hs k s xs[k] hP (qb hlt)
   rw [zb1, h1, qm hlt]
   exact ih (k + 1) _ (by omega) (by omega) h2
 have := key _ 0 s0 rfl (Nat.zero_le _) h0
 simpa using this
theorem zfr {step : α → Option (α ⊕ β)} {xs : List X} (p : X → Bool) (emb : Nat → α) (hit : Nat → β) (miss : β)
  (hs : ∀ k x, xs[k]? = some x → step (emb k) = some (if p x then .inr (hit k) else .inl (emb (k + 1)))) (he : step (emb xs.length) = some (.inr miss)) :
  zav step (emb 0) = some (match xs.findIdx? p with | some i => hit i | none => miss) := by
 have key : ∀ n k, n = xs.length - k → k ≤ xs.length → zav step (emb k) = some (match (xs.drop k).findIdx? p with | some i => hit (k + i) | none => miss) := by
  intro n
  induction n with
  | zero =>
   intro k hn hk
   have : k = xs.length := by omega
   subst this
   rw [zb1, he, List.drop_length]
   rfl
  | succ n ih =>
   intro k hn hk
   have hlt : k < xs.length := by omega
   rw [zb1, hs k xs[k] (qb hlt), qm hlt, List.findIdx?_cons]
   cases hp : p xs[k] with
   | true => simp
   | false =>
    simp only [qj, if_false]
    rw [ih (k + 1) (by omega) (by omega)]
    cases (xs.drop (k + 1)).findIdx? p with
    | none => rfl
    | some i => simp only [Option.map_some]; rw [show k + 1 + i = k + (i + 1) by omega]
 have := key _ 0 rfl (Nat.zero_le _)
 simpa using this
theorem zo7 (p : X → Bool) (xs : List X) : (xs.findIdx? p).isSome = xs.any p := by
 induction xs with
 | nil => rfl
 | cons x t ih =>
  rw [List.findIdx?_cons, List.any_cons]
  cases hp : p x <;> simp [ih]
theorem zjn {step : α → Option (α ⊕ β)} {xs : List X} (p : X → Bool) (emb : Nat → α) (hit miss : β)
  (hs : ∀ k x, xs[k]? = some x → step (emb k) = some (if p x then .inr hit else .inl (emb (k + 1)))) (he : step (emb xs.length) = some (.inr miss)) :
  zav step (emb 0) = some (if xs.any p then hit else miss) := by
 rw [zfr p emb (fun _ => hit) miss hs he, ← zo7]
 cases xs.findIdx? p <;> rfl
def idxI (p : X → Bool) (xs : List X) : Int := match xs.findIdx? p with | some i => (i : Int) | none => -1
theorem zzg (p : X → Bool) (xs : List X) : decide (idxI p xs ≥ 0) = xs.any p := by
 unfold idxI
 rw [← zo7]
 cases xs.findIdx? p <;> simp
end
def inB (lo hi n : Int) : Bool := decide (lo ≤ n ∧ n ≤ hi)
theorem zay {lo hi n : Int} : inB lo hi n = true ↔ lo ≤ n ∧ n ≤ hi := by simp [inB]
theorem zao3 {X : Type} (p : X → Bool) (xs : List X) : (!xs.any fun x => !p x) = xs.all p := by
 induction xs with
 | nil => rfl
 | cons x t ih => simp only [List.any_cons, List.all_cons, Bool.not_or, Bool.not_not, ih]
theorem zot {X : Type} [BEq X] [LawfulBEq X] [DecidableEq X] : ∀ (a b : List X), a.length = b.length → (a.zip b).any (fun p => p.1 != p.2) = !decide (a = b)
 | [], [], _ => by simp
 | [], _ :: _, h => by simp at h
 | _ :: _, [], h => by simp at h
 | x :: a, y :: b, h => by
  rw [List.zip_cons_cons, List.any_cons, zot a b (by simpa using h)]
  by_cases e : x = y
  ·subst e; simp
  ·simp [e]
theorem zsm (a b : Int) : (a == b) = decide (a = b) := by
 by_cases h : a = b <;> simp [h]
theorem T.run_ret {α : Type} (a : α) : (T.ret a).run = some a := rfl
theorem T.run_fail {α : Type} : (T.fail : T α).run = none := rfl
theorem T.run_test {α : Type} (c : Bool) (t e : T α) : (T.test c t e).run = if c then t.run else e.run := rfl
theorem T.run_sub {α β : Type} (x : Option β) (k : β → T α) : (T.sub x k).run = x.bind fun b => (k b).run := rfl
end Go.Gm
