import Derived.Test.YtpkbjabnchfgjaaGreatDoorWGt10
noncomputable section
namespace Go.Gm
set_option linter.unusedSimpArgs false
set_option linter.unusedVariables false
abbrev zal := zat → TTab → T (Ex × zat × TTab)
def zu7 : Code → Nat
 | .region id _ _ => id
 | .seq a b => if zu7 a = 0 then zu7 b else zu7 a
 | .block _ c => zu7 c
 | .loop c => zu7 c
 | .cond _ x y => if zu7 x = 0 then zu7 y else zu7 x
 | _ => 0
def zaek (told : Nat → Option zal) : Code → Option zal
 | .cond c x y => told (1000000 + zu7 (.cond c x y))
 | .region id _ _ => told (2000000 + id)
 | .seq (.region _ _ _) (.cond c x y) => told (1000000 + zu7 (.cond c x y))
 | _ => none
def evCT (E : TEnv) (told : Nat → Option zal) : Code → zal
 | .skip, s, R => .ret (.norm, s, R)
 | .region _ ops draw, s, R => (zs8 E ops draw s R).bind fun r => .ret (.norm, r.1, r.2)
 | .seq a b, s, R => (match zaek told a with | some L => L s R | none => evCT E told a s R).bind fun r => match r with
  | (.norm, s, R) => evCT E told b s R
  | (.exit i, s, R) => .ret (.exit i, s, R)
  | (.ret, s, R) => .ret (.ret, s, R)
 | .cond c x y, s, R => match evT (ziz s) c with
  | some (.g (.b (.bl t))) => if t then evCT E told x s R else evCT E told y s R
  | some (.g (.b (.bool t))) => match c with
   | .tmp d => .test t (evCT E told x (z3b d true s) R) (evCT E told y (z3b d false s) R)
   | _ => .fail
  | _ => .fail
 | .block id c, s, R => (evCT E told c s R).bind fun r => match r with
  | (.exit i, s, R) => if i = id then .ret (.norm, s, R) else .ret (.exit i, s, R)
  | (.norm, s, R) => .ret (.norm, s, R)
  | (.ret, s, R) => .ret (.ret, s, R)
 | .loop c, s, R => match told (zc3 c) with
  | some L => L s R
  | none => .fail
 | .exit id, s, R => .ret (.exit id, s, R)
 | .ret, s, R => .ret (.ret, s, R)
 | _, _, _ => .fail
def z73 (P : Program) (m : Nat) (c : Code) (s : zat) (R : TTab) (ex : Ex) (s' : zat) (R' : TTab) : Prop :=
 ∀ ⦃w0 : World⦄ ⦃ρ0 : Rho⦄ ⦃R0 : Tab⦄ ⦃N : Nat⦄ ⦃a : Act⦄ ⦃w : World⦄ ⦃Q : Exit → Act → World → Prop⦄, AllZ R0 → m = R0.length → fits N c = true → Inv w0 ρ0 R0 N (zas s) (zaf R) a w →
  (∀ a' w', Inv w0 ρ0 R0 N (zas s') (zaf R') a' w' → Q ex.exit' a' w') → c.wp P Q a w
def zan (P : Program) (m : Nat) (c : Code) (L : zal) : Prop := ∀ s R ex s' R', (L s R).run = some (ex, s', R') → z73 P m (.loop c) s R ex s' R'
def zfz : Code → List Code
 | .seq a b => zfz a ++ zfz b
 | .cond _ a b => zfz a ++ zfz b
 | .block _ c => zfz c
 | .loop c => [c]
 | _ => []
def zlf (P : Program) (m : Nat) (c : Code) (L : zal) : Prop := ∀ s R ex s' R', (L s R).run = some (ex, s', R') → z73 P m c s R ex s' R'
def zp7 : Code → List Code
 | .cond c x y => [.cond c x y]
 | .region id ops d => [.region id ops d]
 | .seq (.region id ops d) (.cond c x y) => [.seq (.region id ops d) (.cond c x y)]
 | _ => []
def zj4 : Code → List Code
 | .seq a b => zp7 a ++ (zj4 a ++ zj4 b)
 | .cond _ a b => zj4 a ++ zj4 b
 | .block _ c => zj4 c
 | _ => []
def zfx (P : Program) (m : Nat) (told : Nat → Option zal) (c : Code) : Prop :=
 (∀ l ∈ zfz c, ∀ L, told (zc3 l) = some L → zan P m l L) ∧ ∀ l ∈ zj4 c, ∀ L, zaek told l = some L → zlf P m l L
theorem zbq {E : TEnv} {told : Nat → Option zal} {m : Nat} (hmix : E.P.follows .mixedOrders = true) (hlib : E.LibOK) (hrec : ∀ f, FnOK E.P f (E.raw f)) : ∀ {c : Code} {s s' : zat} {R R' : TTab} {ex : Ex},
  zfx E.P m told c → (evCT E told c s R).run = some (ex, s', R') → z73 E.P m c s R ex s' R'
 | .skip, s, s', R, R', ex, hl, h => by
  simp only [evCT, T.run, qc, qr] at h
  obtain ⟨rfl, rfl, rfl⟩ := h
  intro w0 ρ0 R0 N a w Q h0 hm hf hi hQ
  exact wp_skip (hQ a w hi)
 | .region id ops draw, s, s', R, R', ex, hl, h => by
  obtain ⟨⟨s1, R1⟩, h1, h2⟩ := T.bind_run h
  simp only [T.run, qc, qr] at h2
  obtain ⟨rfl, rfl, rfl⟩ := h2
  intro w0 ρ0 R0 N a w Q h0 hm hf hi hQ
  obtain ⟨ρ, st, hs⟩ := hi
  exact zafh (E := E.env) hmix hrec hf st.mem hs (zyw hlib h1) fun a' w' ρ' st' hs' => hQ a' w' ⟨ρ', st.trans st', hs'⟩
 | .seq x y, s, s', R, R', ex, hl, h => by
  have hlx : zfx E.P m told x := ⟨fun l hl' => hl.1 l (List.mem_append_left _ hl'), fun l hl' => hl.2 l (List.mem_append_right _ (List.mem_append_left _ hl'))⟩
  have hly : zfx E.P m told y := ⟨fun l hl' => hl.1 l (List.mem_append_right _ hl'), fun l hl' => hl.2 l (List.mem_append_right _ (List.mem_append_right _ hl'))⟩
  obtain ⟨⟨ex1, s1, R1⟩, h1, h2⟩ := T.bind_run h
  have hx : z73 E.P m x s R ex1 s1 R1 := by
   split at h1
   ·rename_i L hL
    have hmem : x ∈ zj4 (.seq x y) := by
     unfold zaek at hL
     split at hL
     ·exact List.mem_append_left _ (by simp [zp7])
     ·exact List.mem_append_left _ (by simp [zp7])
     ·exact List.mem_append_left _ (by simp [zp7])
     ·cases hL
    exact hl.2 x hmem L hL s R ex1 s1 R1 h1
   ·exact zbq hmix hlib hrec hlx h1
  intro w0 ρ0 R0 N a w Q h0 hm hf hi hQ
  simp only [fits, qo] at hf
  refine wp_seq ?_
  cases ex1 with
  | norm => exact hx h0 hm hf.1 hi fun a' w' hi' => zbq hmix hlib hrec hly h2 h0 hm hf.2 hi' hQ
  | exit i =>
   simp only [T.run, qc, qr] at h2
   obtain ⟨rfl, rfl, rfl⟩ := h2
   exact hx h0 hm hf.1 hi fun a' w' hi' => hQ a' w' hi'
  | ret =>
   simp only [T.run, qc, qr] at h2
   obtain ⟨rfl, rfl, rfl⟩ := h2
   exact hx h0 hm hf.1 hi fun a' w' hi' => hQ a' w' hi'
 | .cond c x y, s, s', R, R', ex, hl, h => by
  have hlx : zfx E.P m told x := ⟨fun l hl' => hl.1 l (List.mem_append_left _ hl'), fun l hl' => hl.2 l (List.mem_append_left _ hl')⟩
  have hly : zfx E.P m told y := ⟨fun l hl' => hl.1 l (List.mem_append_right _ hl'), fun l hl' => hl.2 l (List.mem_append_right _ hl')⟩
  intro w0 ρ0 R0 N a w Q h0 hm hf hi hQ
  simp only [fits, qo] at hf
  simp only [evCT] at h
  have hcv : ∀ {t : TB} {b : Bool}, evT (ziz s) c = some (.g (.b t)) → t.raw = .v (.bool b) → a.eval c = .bool b := by
   intro t b hc ht
   obtain ⟨ρ, st, hs⟩ := hi
   have := hs.eval c _ (z2k s c _ hc)
   simp only [TV.raw, TG.raw, ht] at this
   exact this
  split at h
  ·rename_i t hc
   refine wp_cond (hcv hc rfl) ?_
   cases t with
   | true => exact zbq hmix hlib hrec hlx (by simpa using h) h0 hm hf.1 hi hQ
   | false => exact zbq hmix hlib hrec hly (by simpa using h) h0 hm hf.2 hi hQ
  ·rename_i t hc
   split at h
   ·rename_i d
    have hd : ziz s d = some (.g (.b (.bool t))) := hc
    simp only [T.run] at h
    cases t with
    | true =>
     simp only [if_true] at h
     refine wp_cond (hcv hc rfl) ?_
     exact zbq hmix hlib hrec hlx h h0 hm hf.1 (by rw [ziy hd]; exact hi) hQ
    | false =>
     simp only [qj, if_false] at h
     refine wp_cond (hcv hc rfl) ?_
     exact zbq hmix hlib hrec hly h h0 hm hf.2 (by rw [ziy hd]; exact hi) hQ
   ·cases h
  ·cases h
 | .block id c, s, s', R, R', ex, hl, h => by
  obtain ⟨⟨ex1, s1, R1⟩, h1, h2⟩ := T.bind_run h
  intro w0 ρ0 R0 N a w Q h0 hm hf hi hQ
  refine wp_block ?_
  cases ex1 with
  | exit i =>
   simp only at h2
   refine zbq hmix hlib hrec (c := c) hl h1 h0 hm hf hi fun a' w' hi' => ?_
   simp only [Ex.exit', Exit.inBlock]
   split at h2
   ·rename_i e
    simp only [T.run, qc, qr] at h2
    obtain ⟨rfl, rfl, rfl⟩ := h2
    rw [if_pos e]; exact hQ a' w' hi'
   ·rename_i e
    simp only [T.run, qc, qr] at h2
    obtain ⟨rfl, rfl, rfl⟩ := h2
    rw [if_neg e]; exact hQ a' w' hi'
  | norm =>
   simp only [T.run, qc, qr] at h2
   obtain ⟨rfl, rfl, rfl⟩ := h2
   exact zbq hmix hlib hrec (c := c) hl h1 h0 hm hf hi fun a' w' hi' => hQ a' w' hi'
  | ret =>
   simp only [T.run, qc, qr] at h2
   obtain ⟨rfl, rfl, rfl⟩ := h2
   exact zbq hmix hlib hrec (c := c) hl h1 h0 hm hf hi fun a' w' hi' => hQ a' w' hi'
 | .loop c, s, s', R, R', ex, hl, h => by
  simp only [evCT] at h
  split at h
  ·rename_i L hL
   exact hl.1 c (by simp [zfz]) L hL s R ex s' R' h
  ·cases h
 | .exit id, s, s', R, R', ex, hl, h => by
  simp only [evCT, T.run, qc, qr] at h
  obtain ⟨rfl, rfl, rfl⟩ := h
  intro w0 ρ0 R0 N a w Q h0 hm hf hi hQ
  exact wp_exit (hQ a w hi)
 | .ret, s, s', R, R', ex, hl, h => by
  simp only [evCT, T.run, qc, qr] at h
  obtain ⟨rfl, rfl, rfl⟩ := h
  intro w0 ρ0 R0 N a w Q h0 hm hf hi hQ
  exact wp_ret (hQ a w hi)
section
variable {α β : Type}
def zps (step : α → Option (α ⊕ β)) : Nat → α → Option β
 | 0, _ => none
 | n + 1, v => match step v with
  | some (.inl v') => zps step n v'
  | some (.inr o) => some o
  | none => none
theorem zn5 {step : α → Option (α ⊕ β)} : ∀ {n : Nat} {v : α} {o : β}, zps step n v = some o → ∀ k, zps step (n + k) v = some o
 | 0, v, o, h, k => by cases h
 | n + 1, v, o, h, k => by
  rw [show n + 1 + k = (n + k) + 1 by omega]
  simp only [zps] at h ⊢
  cases hs : step v with
  | none => rw [hs] at h; cases h
  | some r =>
   rw [hs] at h
   cases r with
   | inl v' => exact zn5 h k
   | inr o' => exact h
open Classical in
def zav (step : α → Option (α ⊕ β)) (v : α) : Option β := if h : ∃ n o, zps step n v = some o then some (Classical.choose (Classical.choose_spec h)) else none
theorem zjm {step : α → Option (α ⊕ β)} {v : α} {o : β} : zav step v = some o ↔ ∃ n, zps step n v = some o := by
 unfold zav
 constructor
 ·intro h
  split at h
  ·rename_i hx
   cases h
   exact ⟨_, Classical.choose_spec (Classical.choose_spec hx)⟩
  ·cases h
 ·rintro ⟨n, hn⟩
  have hx : ∃ n o, zps step n v = some o := ⟨n, o, hn⟩
  rw [dif_pos hx]
  have h2 := Classical.choose_spec (Classical.choose_spec hx)
  have a := zn5 hn (Classical.choose hx)
  have b := zn5 h2 n
  rw [Nat.add_comm, a] at b
  exact b.symm
theorem zb1 {step : α → Option (α ⊕ β)} {v : α} : zav step v = match step v with
  | some (.inl v') => zav step v'
  | some (.inr o) => some o
  | none => none := by
 apply Option.ext
 intro o
 rw [zjm]
 constructor
 ·rintro ⟨n, h⟩
  cases n with
  | zero => cases h
  | succ n =>
   simp only [zps] at h
   cases hs : step v with
   | none => rw [hs] at h; cases h
   | some r =>
    rw [hs] at h
    cases r with
    | inl v' => exact zjm.2 ⟨n, h⟩
    | inr o' => exact h
 ·intro h
  cases hs : step v with
  | none => rw [hs] at h; cases h
  | some r =>
   rw [hs] at h
   cases r with
   | inl v' =>
    obtain ⟨n, hn⟩ := zjm.1 h
    exact ⟨n + 1, by simp only [zps, hs]; exact hn⟩
   | inr o' => exact ⟨1, by simp only [zps, hs]; exact h⟩
end
def zat2 (E : TEnv) (told : Nat → Option zal) (m : Nat) (keep : Ex → List (Nat × Option ETy)) (c : Code) (s : zat) (R : TTab) : T (Ex × zat × TTab) :=
 (evCT E told c s R).bind fun r => (zasb m (keep r.1) r.2.1 r.2.2).bind fun q => .ret (r.1, q.1, q.2)
def zbjp {α β : Type} (m : Nat) (keep : Ex → List (Nat × Option ETy)) (dec : zat → TTab → T α) (step : α → T (α ⊕ β)) (cs : β → T (Ex × zat × TTab)) : zal := fun s R =>
 (zasb m (keep .norm) s R).bind fun r => (dec r.1 r.2).bind fun v => .sub (zav (fun v => (step v).run) v) cs
def cutT {α β : Type} (m : Nat) (head : List (Nat × Option ETy)) (dec : zat → TTab → T α) (F : α → Option β) (cs : β → T (Ex × zat × TTab)) : zal := fun s R =>
 (zasb m head s R).bind fun r => (dec r.1 r.2).bind fun v => .sub (F v) cs
end Go.Gm
