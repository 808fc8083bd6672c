import Derived.Test.YtpkbjabnchfgjaaGreatDoorWGm1
import Derived.Still
namespace Go.Gm
namespace Pr
variable {α : Type}
theorem zdb : ∀ (p : Pr α) {R R' : Tab} {a : α}, p.run R = some (a, R') → R'.length = R.length
 | .ret a, R, R', b, h => by simp only [run, qc, qr] at h; rw [← h.2]
 | .fail, R, R', b, h => by simp [run] at h
 | .get r k, R, R', b, h => by
  simp only [run] at h
  split at h
  ·exact zdb (k _) h
  ·cases h
 | .put r rt k, R, R', b, h => by
  simp only [run] at h
  split at h
  ·simpa using zdb k h
  ·cases h
 | .del r k, R, R', b, h => by
  simp only [run] at h
  split at h
  ·simpa using zdb k h
  ·cases h
 | .mk r rt k, R, R', b, h => by
  simp only [run] at h
  split at h
  ·simpa using zdb k h
  ·cases h
 | .peek r k, R, R', b, h => by
  simp only [run] at h
  split at h
  ·exact zdb (k _) h
  ·exact zdb (k _) h
  ·cases h
theorem zbh : ∀ (p : Pr α) {R R' : Tab} {a : α}, p.run R = some (a, R') → ∀ r, r ∉ p.changed R → R'[r]? = R[r]?
 | .ret a, R, R', b, h, r, hr => by simp only [run, qc, qr] at h; rw [← h.2]
 | .fail, R, R', b, h, r, hr => by simp [run] at h
 | .get r' k, R, R', b, h, r, hr => by
  simp only [run] at h
  simp only [changed] at hr
  split at h
  ·exact zbh (k _) h r (by simpa [*] using hr)
  ·cases h
 | .put r' rt k, R, R', b, h, r, hr => by
  simp only [run] at h
  simp only [changed] at hr
  split at h
  ·rename_i heq
   simp only [heq, List.mem_cons, not_or] at hr
   rw [zbh k h r hr.2, kh (Ne.symm hr.1)]
  ·cases h
 | .del r' k, R, R', b, h, r, hr => by
  simp only [run] at h
  simp only [changed] at hr
  split at h
  ·rename_i heq
   simp only [heq, List.mem_cons, not_or] at hr
   rw [zbh k h r hr.2, kh (Ne.symm hr.1)]
  ·cases h
 | .mk r' rt k, R, R', b, h, r, hr => by
  simp only [run] at h
  simp only [changed] at hr
  split at h
  ·rename_i heq
   simp only [heq, List.mem_cons, not_or] at hr
   rw [zbh k h r hr.2, kh (Ne.symm hr.1)]
  ·cases h
 | .peek r' k, R, R', b, h, r, hr => by
  simp only [run] at h
  simp only [changed] at hr
  split at h
  ·exact zbh (k _) h r (by simpa [*] using hr)
  ·exact zbh (k _) h r (by simpa [*] using hr)
  ·cases h
theorem zbl : ∀ (p : Pr α) (R : Tab) (r : Nat), r ∈ p.changed R → r ∈ p.touched R
 | .ret a, R, r, h => by simp [changed] at h
 | .fail, R, r, h => by simp [changed] at h
 | .get r' k, R, r, h => by
  simp only [changed] at h
  simp only [touched]
  split at h
  ·exact qv _ (zbl (k _) R r h)
  ·cases h
 | .put r' rt k, R, r, h => by
  simp only [changed] at h
  simp only [touched]
  split at h
  ·rcases List.mem_cons.1 h with rfl | h
   ·exact List.mem_cons_self
   ·exact qv _ (zbl k _ r h)
  ·cases h
 | .del r' k, R, r, h => by
  simp only [changed] at h
  simp only [touched]
  split at h
  ·rcases List.mem_cons.1 h with rfl | h
   ·exact List.mem_cons_self
   ·exact qv _ (zbl k _ r h)
  ·cases h
 | .mk r' rt k, R, r, h => by
  simp only [changed] at h
  simp only [touched]
  split at h
  ·rcases List.mem_cons.1 h with rfl | h
   ·exact List.mem_cons_self
   ·exact qv _ (zbl k _ r h)
  ·cases h
 | .peek r' k, R, r, h => by
  simp only [changed] at h
  simp only [touched]
  split at h
  ·exact qv _ (zbl (k _) R r h)
  ·exact qv _ (zbl (k _) R r h)
  ·cases h
def zbkj (p : Pr α) (R R2 R' : Tab) (a : α) : Prop :=
 ∃ R2', p.run R2 = some (a, R2') ∧ p.touched R2 = p.touched R ∧ p.changed R2 = p.changed R ∧ ∀ r, r ∈ p.changed R → R2'[r]? = R'[r]?
theorem zt9 {R R2 : Tab} {r' : Nat} {x : Ent} {l : List Nat} (hl : R2.length = R.length) (h : ∀ r ∈ l, R2[r]? = R[r]?) : ∀ r, r = r' ∨ r ∈ l → (R2.set r' x)[r]? = (R.set r' x)[r]? := by
 intro r hr
 by_cases e : r' = r
 ·subst e; simp [List.getElem?_set, hl]
 ·rw [kh e, kh e]
  rcases hr with rfl | hr
  ·exact absurd rfl e
  ·exact h r hr
theorem zfs : ∀ (p : Pr α) {R R2 R' : Tab} {a : α}, p.run R = some (a, R') → R2.length = R.length → (∀ r ∈ p.touched R, R2[r]? = R[r]?) → zbkj p R R2 R' a
 | .ret a, R, R2, R', b, h, hl, ht => by
  simp only [run, qc, qr] at h
  exact ⟨R2, by simp [run, h.1], rfl, rfl, fun r hr => by simp [changed] at hr⟩
 | .fail, R, R2, R', b, h, hl, ht => by simp [run] at h
 | .get r' k, R, R2, R', b, h, hl, ht => by
  simp only [run] at h
  simp only [touched] at ht
  split at h
  ·rename_i rt heq
   simp only [heq] at ht
   have h2 : R2[r']? = some (.live rt) := by rw [ht r' List.mem_cons_self, heq]
   obtain ⟨R2', a1, a2, a3, a4⟩ := zfs (k rt) h hl (fun r hr => ht r (qv _ hr))
   exact ⟨R2', by simp only [run, h2, a1], by simp only [touched, h2, heq, a2], by simp only [changed, h2, heq, a3], by simpa only [changed, heq] using a4⟩
  ·cases h
 | .put r' rt k, R, R2, R', b, h, hl, ht => by
  simp only [run] at h
  simp only [touched] at ht
  split at h
  ·rename_i rt0 heq
   simp only [heq] at ht
   have h2 : R2[r']? = some (.live rt0) := by rw [ht r' List.mem_cons_self, heq]
   have hag := zt9 (r' := r') (x := .live rt) hl (fun r hr => ht r (qv _ hr))
   obtain ⟨R2', a1, a2, a3, a4⟩ := zfs k (R2 := R2.set r' (.live rt)) h (by simpa using hl) (fun r hr => hag r (.inr hr))
   refine ⟨R2', by simp only [run, h2, a1], by simp only [touched, h2, heq, a2], by simp only [changed, h2, heq, a3], ?_⟩
   intro r hr
   simp only [changed, heq] at hr
   by_cases hc : r ∈ k.changed (R.set r' (.live rt))
   ·exact a4 r hc
   ·rcases List.mem_cons.1 hr with rfl | hr
    ·rw [zbh k a1 r (by rw [a3]; exact hc), zbh k h r hc]; exact hag r (.inl rfl)
    ·exact absurd hr hc
  ·cases h
 | .del r' k, R, R2, R', b, h, hl, ht => by
  simp only [run] at h
  simp only [touched] at ht
  split at h
  ·rename_i rt0 heq
   simp only [heq] at ht
   have h2 : R2[r']? = some (.live rt0) := by rw [ht r' List.mem_cons_self, heq]
   have hag := zt9 (r' := r') (x := .dead) hl (fun r hr => ht r (qv _ hr))
   obtain ⟨R2', a1, a2, a3, a4⟩ := zfs k (R2 := R2.set r' .dead) h (by simpa using hl) (fun r hr => hag r (.inr hr))
   refine ⟨R2', by simp only [run, h2, a1], by simp only [touched, h2, heq, a2], by simp only [changed, h2, heq, a3], ?_⟩
   intro r hr
   simp only [changed, heq] at hr
   by_cases hc : r ∈ k.changed (R.set r' .dead)
   ·exact a4 r hc
   ·rcases List.mem_cons.1 hr with rfl | hr
    ·rw [zbh k a1 r (by rw [a3]; exact hc), zbh k h r hc]; exact hag r (.inl rfl)
    ·exact absurd hr hc
  ·cases h
 | .mk r' rt k, R, R2, R', b, h, hl, ht => by
  simp only [run] at h
  simp only [touched] at ht
  split at h
  ·rename_i heq
   simp only [heq] at ht
   have h2 : R2[r']? = some .fresh := by rw [ht r' List.mem_cons_self, heq]
   have hag := zt9 (r' := r') (x := .live rt) hl (fun r hr => ht r (qv _ hr))
   obtain ⟨R2', a1, a2, a3, a4⟩ := zfs k (R2 := R2.set r' (.live rt)) h (by simpa using hl) (fun r hr => hag r (.inr hr))
   refine ⟨R2', by simp only [run, h2, a1], by simp only [touched, h2, heq, a2], by simp only [changed, h2, heq, a3], ?_⟩
   intro r hr
   simp only [changed, heq] at hr
   by_cases hc : r ∈ k.changed (R.set r' (.live rt))
   ·exact a4 r hc
   ·rcases List.mem_cons.1 hr with rfl | hr
    ·rw [zbh k a1 r (by rw [a3]; exact hc), zbh k h r hc]; exact hag r (.inl rfl)
    ·exact absurd hr hc
  ·cases h
 | .peek r' k, R, R2, R', b, h, hl, ht => by
  simp only [run] at h
  simp only [touched] at ht
  split at h
  ·rename_i rt heq
   simp only [heq] at ht
   have h2 : R2[r']? = some (.live rt) := by rw [ht r' List.mem_cons_self, heq]
   obtain ⟨R2', a1, a2, a3, a4⟩ := zfs (k (some rt)) h hl (fun r hr => ht r (qv _ hr))
   exact ⟨R2', by simp only [run, h2, a1], by simp only [touched, h2, heq, a2], by simp only [changed, h2, heq, a3], by simpa only [changed, heq] using a4⟩
  ·rename_i heq
   simp only [heq] at ht
   have h2 : R2[r']? = some .dead := by rw [ht r' List.mem_cons_self, heq]
   obtain ⟨R2', a1, a2, a3, a4⟩ := zfs (k none) h hl (fun r hr => ht r (qv _ hr))
   exact ⟨R2', by simp only [run, h2, a1], by simp only [touched, h2, heq, a2], by simp only [changed, h2, heq, a3], by simpa only [changed, heq] using a4⟩
  ·cases h
theorem swap {β : Type} {p : Pr α} {q : Pr β} {R R1 R2 : Tab} {a : α} {b : β} (hp : p.run R = some (a, R1)) (hq : q.run R1 = some (b, R2))
  (h1 : ∀ r ∈ p.changed R, r ∉ q.touched R1) (h2 : ∀ r ∈ q.changed R1, r ∉ p.touched R) :
  ∃ R1', q.run R = some (b, R1') ∧ q.touched R = q.touched R1 ∧ q.changed R = q.changed R1 ∧
   p.run R1' = some (a, R2) ∧ p.touched R1' = p.touched R ∧ p.changed R1' = p.changed R := by
 have hl1 := zdb p hp
 have hl2 := zdb q hq
 obtain ⟨R1', q1, q2, q3, q4⟩ := zfs q hq hl1.symm (fun r hr => (zbh p hp r (fun hc => h1 r hc hr)).symm)
 have hl1' := zdb q q1
 obtain ⟨R2', p1, p2, p3, p4⟩ := zfs p (R2 := R1') hp hl1' (fun r hr => zbh q q1 r (by rw [q3]; exact fun hc => h2 r hc hr))
 refine ⟨R1', q1, q2, q3, ?_, p2, p3⟩
 have : R2' = R2 := by
  apply List.ext_getElem?
  intro r
  by_cases hc : r ∈ p.changed R
  ·rw [p4 r hc, zbh q hq r (fun hq' => h1 r hc (zbl q R1 r hq'))]
  ·rw [zbh p p1 r (by rw [p3]; exact hc)]
   by_cases hd : r ∈ q.changed R1
   ·exact q4 r hd
   ·rw [zbh q q1 r (by rw [q3]; exact hd), zbh q hq r hd, zbh p hp r hc]
 rw [← this]; exact p1
end Pr
abbrev FS := Nat → Option V
def putF (s : FS) (dst : Option Tmp) (v : V) : FS :=
 match dst with
 | some d => fun t => if d = t then some v else s t
 | none => s
theorem zl3 (s : zej) (dst : Option Tmp) (v : V) : look (putS s dst v) = putF (look s) dst v := by
 cases dst with
 | none => rfl
 | some d => funext t; rfl
section
variable (E : Env) (rec : FuncId → List V → Tab → Option (V × Tab)) (ops : Array Oper) (bs : Nat → Nat)
def zoo (i : Nat) (s : FS) (R : Tab) : Option (FS × Tab) :=
 match ops[i]? with
 | none => some (s, R)
 | some o => match zc4 ops s o with
  | none => none
  | some false => some (putF s o.dst zauh, R)
  | some true => match (opP E rec o (evOf s) (bs i)).run R with
   | some (v, R') => some (putF s o.dst v, R')
   | none => none
def zl8 (i : Nat) (s : FS) (R : Tab) : List Nat × List Nat :=
 match ops[i]? with
 | none => ([], [])
 | some o => match zc4 ops s o with
  | some true => ((opP E rec o (evOf s) (bs i)).touched R, (opP E rec o (evOf s) (bs i)).changed R)
  | _ => ([], [])
def anyA (FP : Nat → List Nat × List Nat) (K : FS → Tab → Prop) : Nat → Array Bool → FS → Tab → Prop
 | 0, listed, s, R => Region.ready .any ops listed = [] ∧ K s R
 | n + 1, listed, s, R =>
  (Region.ready .any ops listed = [] → K s R) ∧
  ∀ i ∈ Region.ready .any ops listed, ∃ s' R', zoo E rec ops bs i s R = some (s', R') ∧ zl8 E rec ops bs i s R = FP i ∧ anyA FP K n (listed.setIfInBounds i true) s' R'
end
theorem zlj {ev ev' : Operand → Option V} : ∀ {l : List Operand}, (∀ x ∈ l, ev x = ev' x) → zhi ev l = zhi ev' l
 | [], _ => rfl
 | x :: xs, h => by simp only [zhi]; rw [h x List.mem_cons_self, zlj fun y hy => h y (qv _ hy)]
theorem z3x (P : Program) (o : Oper) {ev ev' : Operand → Option V} (h : ∀ x ∈ o.op.operands, ev x = ev' x) : zc6 P o ev = zc6 P o ev' := by
 unfold zc6
 rw [zlj (l := o.op.operands.toList) (ev := ev) (ev' := ev') (fun x hx => h x (Array.mem_toList_iff.1 hx))]
 split
 ·split
  ·rfl
  ·rename_i hns
   rw [execOp_congr o (ρ := zde ev) (ρ' := zde ev') (fun cs b hs => hns cs b hs) (fun x hx => by unfold zde; rw [h x hx])]
 ·rfl
theorem zht {ev ev' : Operand → Option V} : ∀ {l : List (Nat × Operand)}, (∀ p ∈ l, ev p.2 = ev' p.2) → zfd ev l = zfd ev' l
 | [], _ => rfl
 | (i, x) :: xs, h => by
  simp only [zfd]
  rw [h (i, x) List.mem_cons_self, zht fun y hy => h y (qv _ hy)]
theorem zo3 {ev ev' : Operand → Option V} : ∀ {l : List Operand}, (∀ x ∈ l, ev x = ev' x) → zim ev l = zim ev' l
 | [], _ => rfl
 | x :: xs, h => by
  simp only [zim]
  rw [h x List.mem_cons_self, zo3 fun y hy => h y (qv _ hy)]
theorem zo5 {ev ev' : Operand → Option V} : ∀ {l : List Operand}, (∀ x ∈ l, ev x = ev' x) → zj5 ev l = zj5 ev' l
 | [], _ => rfl
 | x :: xs, h => by
  simp only [zj5]
  rw [h x List.mem_cons_self, zo5 fun y hy => h y (qv _ hy)]
theorem zhk {ev ev' : Operand → Option V} {d : Nat} {x : Option Operand} (h : ∀ y, x = some y → ev y = ev' y) : zbx ev d x = zbx ev' d x := by
 cases x with
 | none => rfl
 | some y => simp only [zbx]; rw [h y rfl]
theorem zao0 (P : Program) (o : Oper) {ev ev' : Operand → Option V} (base : Nat) (h : ∀ x ∈ o.op.operands, ev x = ev' x) : act P o ev base = act P o ev' base := by
 have hp := z3x P o h
 obtain ⟨dst, op, type, pos, after, guard⟩ := o
 cases op <;> simp only [Op.operands] at h <;> simp only [act]
 case move x => rw [h x (by simp)]
 case assign x => rw [h x (by simp)]
 case pick c a b => rw [h c (by simp), h a (by simp), h b (by simp)]
 case box t x => rw [h x (by simp)]
 case build t parts => rw [zht (ev := ev) (ev' := ev') fun p hp => h p.2 (by simpa using ⟨p.1, by simpa using hp⟩)]
 case buildSlice t n parts => rw [zht (ev := ev) (ev' := ev') fun p hp => h p.2 (by simpa using ⟨p.1, by simpa using hp⟩)]
 case load t p => rw [h p (by simp)]
 case store t p x => rw [h p (by simp), h x (by simp)]
 case nilCheck x => rw [h x (by simp), hp]
 case binOp op t x y m => unfold zih; rw [h x (by simp), h y (by simp), hp]
 case unOp => rw [hp]
 case index => rw [hp]
 case convert src dst x => unfold zfa; rw [h x (by simp), hp]
 case makeFunc fn first captured =>
  cases fn with
  | func f =>
   simp only []
   rw [zo3 (ev := ev) (ev' := ev') fun x hx => h x (by simp; exact .inr (Array.mem_toList_iff.1 hx)), hp]
  | _ => rfl
 case makeSlice t l c => rw [h l (by simp), h c (by simp)]
 case slice t x lo hi mx =>
  unfold zje
  have e1 : ∀ d, zbx ev d lo = zbx ev' d lo := fun d => zhk fun y hy => h y (by simp [hy])
  have e2 : ∀ d, zbx ev d hi = zbx ev' d hi := fun d => zhk fun y hy => h y (by simp [hy])
  have e3 : ∀ d, zbx ev d mx = zbx ev' d mx := fun d => zhk fun y hy => h y (by simp [hy])
  simp only [hp, h x (by simp), e1, e2, e3]
 case fieldAddr s x f => rw [h x (by simp)]
 case indexAddr t x i => rw [h x (by simp), h i (by simp)]
 case extract x i => rw [h x (by simp)]
 case call c =>
  obtain ⟨callee, args, argTypes⟩ := c
  have ha : ∀ i x, args[i]? = some x → ev x = ev' x := fun i x hx => h x (by simp only [Call.operands]; exact Array.mem_append.2 (.inr (Array.mem_of_getElem? hx)))
  cases callee with
  | builtin b =>
   cases b <;> simp only []
   case len =>
    split
    ·rename_i x _ hx _; rw [ha _ _ hx]
    ·rw [hp]
   case append =>
    split
    ·rename_i s x t tx hs _
     have h0 : args[0]? = some s := by rw [← Array.getElem?_toList, hs]; rfl
     have h1 : args[1]? = some x := by rw [← Array.getElem?_toList, hs]; rfl
     rw [ha _ _ h0, ha _ _ h1]
    ·rfl
   case clear =>
    split
    ·rename_i x t hs _
     have h0 : args[0]? = some x := by rw [← Array.getElem?_toList, hs]; rfl
     rw [ha _ _ h0]
    ·rfl
   case copy =>
    split
    ·rename_i s x t tx hs _
     have h0 : args[0]? = some s := by rw [← Array.getElem?_toList, hs]; rfl
     have h1 : args[1]? = some x := by rw [← Array.getElem?_toList, hs]; rfl
     rw [ha _ _ h0, ha _ _ h1]
    ·rfl
   case min => rw [hp]
   case max => rw [hp]
  | _ => rfl
theorem zatk (E : Env) (rec : FuncId → List V → Tab → Option (V × Tab)) (o : Oper) {ev ev' : Operand → Option V} (base : Nat) (h : ∀ x ∈ o.op.operands, ev x = ev' x) :
  opP E rec o ev base = opP E rec o ev' base := by
 have ha := zao0 E.P o base h
 obtain ⟨dst, op, type, pos, after, guard⟩ := o
 unfold opP
 split
 ·rename_i x args _ heq
  simp only at heq
  subst heq
  simp only [Op.operands] at h
  rw [h x (by simp [Call.operands]), zo5 (ev := ev) (ev' := ev') fun y hy => h y (by simp only [Call.operands]; exact Array.mem_append.2 (.inr (Array.mem_toList_iff.1 hy)))]
 ·exact ha
theorem zaps {s : FS} {dst : Option Tmp} {v : V} {x : Operand} (h : ∀ d, dst = some d → x ≠ .tmp d) : evOf (putF s dst v) x = evOf s x := by
 cases dst with
 | none => rfl
 | some d =>
  cases x with
  | tmp t => simp only [evOf, putF]; rw [if_neg (fun e => h d rfl (by rw [e]))]
  | _ => rfl
theorem zma (s : FS) {x y : Option Tmp} (v u : V) (h : ∀ d, x = some d → y ≠ some d) : putF (putF s x v) y u = putF (putF s y u) x v := by
 cases x with
 | none => rfl
 | some d =>
  cases y with
  | none => rfl
  | some e =>
   have hne : d ≠ e := fun he => h d rfl (he ▸ rfl)
   funext t
   simp only [putF]
   by_cases h1 : e = t <;> by_cases h2 : d = t <;> simp [h1, h2]
   exact absurd (h2.trans h1.symm) hne
section
variable {E : Env} {rec : FuncId → List V → Tab → Option (V × Tab)} {ops : Array Oper} {bs : Nat → Nat}
theorem zoa (o : Oper) (s : FS) (dst : Option Tmp) (v : V) (base : Nat) (h : ∀ d, dst = some d → d ∉ o.looksAt ops) :
  opP E rec o (evOf (putF s dst v)) base = opP E rec o (evOf s) base :=
 zatk E rec o base fun x hx => zaps fun d hd hxd => h d hd (by
  subst hxd
  exact List.mem_append_left _ (List.mem_filterMap.2 ⟨.tmp d, by simpa using hx, rfl⟩))
theorem zbz (o : Oper) (s : FS) (dst : Option Tmp) (v : V) (h : ∀ d, dst = some d → d ∉ o.looksAt ops) : zc4 ops (putF s dst v) o = zc4 ops s o := by
 cases dst with
 | none => rfl
 | some d =>
  unfold zc4
  cases hg : o.guard with
  | none => rfl
  | some gw =>
   obtain ⟨g, want⟩ := gw
   simp only []
   cases hd : (ops[g]?).bind (·.dst) with
   | none => rfl
   | some t =>
    have hne : d ≠ t := fun e => h d rfl (List.mem_append_right _ (by simp [hg, hd, e]))
    simp only [qa, putF, if_neg hne]
theorem zafl {i j : Nat} {oi oj : Oper} {s s1 s2 : FS} {R R1 R2 : Tab} {Pi Pj : List Nat × List Nat} (hi : ops[i]? = some oi) (hj : ops[j]? = some oj) (hap : oi.apart ops oj = true)
  (h1 : zoo E rec ops bs i s R = some (s1, R1)) (p1 : zl8 E rec ops bs i s R = Pi)
  (h2 : zoo E rec ops bs j s1 R1 = some (s2, R2)) (p2 : zl8 E rec ops bs j s1 R1 = Pj)
  (d1 : ∀ r ∈ Pi.2, r ∉ Pj.1) (d2 : ∀ r ∈ Pj.2, r ∉ Pi.1) :
  ∃ s1' R1', zoo E rec ops bs j s R = some (s1', R1') ∧ zl8 E rec ops bs j s R = Pj ∧ zoo E rec ops bs i s1' R1' = some (s2, R2) ∧ zl8 E rec ops bs i s1' R1' = Pi := by
 obtain ⟨a1, a2, a3⟩ := Oper.apart_spec hap
 unfold zoo zl8 at *
 simp only [hi, hj] at *
 cases gi : zc4 ops s oi with
 | none => rw [gi] at h1; cases h1
 | some wi =>
  rw [gi] at h1 p1
  cases wi with
  | false =>
   simp only [qc, qr] at h1
   obtain ⟨rfl, rfl⟩ := h1
   rw [zbz oj s oi.dst _ a1] at h2 p2
   cases gj : zc4 ops s oj with
   | none => rw [gj] at h2; cases h2
   | some wj =>
    rw [gj] at h2 p2
    cases wj with
    | false =>
     simp only [qc, qr] at h2
     obtain ⟨rfl, rfl⟩ := h2
     refine ⟨_, _, rfl, p2, ?_, ?_⟩
     ·rw [zbz oi s oj.dst _ a3, gi, zma s _ _ a2]
     ·rw [zbz oi s oj.dst _ a3, gi]; exact p1
    | true =>
     simp only [] at h2 p2
     rw [zoa oj s oi.dst _ _ a1] at h2 p2
     cases hr : (opP E rec oj (evOf s) (bs j)).run R with
     | none => rw [hr] at h2; cases h2
     | some vR =>
      obtain ⟨v, R'⟩ := vR
      rw [hr] at h2
      simp only [qc, qr] at h2
      obtain ⟨rfl, rfl⟩ := h2
      refine ⟨_, _, rfl, p2, ?_, ?_⟩
      ·rw [zbz oi s oj.dst _ a3, gi, zma s _ _ a2]
      ·rw [zbz oi s oj.dst _ a3, gi]; exact p1
  | true =>
   simp only [] at h1 p1
   cases hri : (opP E rec oi (evOf s) (bs i)).run R with
   | none => rw [hri] at h1; cases h1
   | some vR =>
    obtain ⟨vi, Ri⟩ := vR
    rw [hri] at h1
    simp only [qc, qr] at h1
    obtain ⟨rfl, rfl⟩ := h1
    rw [zbz oj s oi.dst _ a1] at h2 p2
    cases gj : zc4 ops s oj with
    | none => rw [gj] at h2; cases h2
    | some wj =>
     rw [gj] at h2 p2
     cases wj with
     | false =>
      simp only [qc, qr] at h2
      obtain ⟨rfl, rfl⟩ := h2
      refine ⟨_, _, rfl, p2, ?_, ?_⟩
      ·rw [zbz oi s oj.dst _ a3, gi]
       simp only []
       rw [zoa oi s oj.dst _ _ a3, hri, zma s _ _ a2]
      ·rw [zbz oi s oj.dst _ a3, gi]
       simp only []
       rw [zoa oi s oj.dst _ _ a3]; exact p1
     | true =>
      simp only [] at h2 p2
      rw [zoa oj s oi.dst _ _ a1] at h2 p2
      cases hrj : (opP E rec oj (evOf s) (bs j)).run Ri with
      | none => rw [hrj] at h2; cases h2
      | some vR =>
       obtain ⟨vj, Rj⟩ := vR
       rw [hrj] at h2
       simp only [qc, qr] at h2
       obtain ⟨rfl, rfl⟩ := h2
       subst p1 p2
       obtain ⟨R1', q1, q2, q3, q4, q5, q6⟩ := Pr.swap hri hrj d1 d2
       refine ⟨putF s oj.dst vj, R1', ?_, ?_, ?_, ?_⟩
       ·simp only [q1]
       ·simp only [q2, q3]
       ·rw [zbz oi s oj.dst _ a3, gi]
        simp only []
        rw [zoa oi s oj.dst _ _ a3, q4, zma s _ _ a2]
       ·rw [zbz oi s oj.dst _ a3, gi]
        simp only []
        rw [zoa oi s oj.dst _ _ a3, q5, q6]
inductive Dep (ops : Array Oper) (i : Nat) : Nat → Prop where
 | edge {j : Nat} {o : Oper} {e : Edge} (h : ops[j]? = some o) (he : e ∈ o.after) (hb : Region.binds .any e = true) (hi : e.on = i) : Dep ops i j
 | step {j : Nat} {o : Oper} {e : Edge} (h : ops[j]? = some o) (he : e ∈ o.after) (hb : Region.binds .any e = true) (hd : Dep ops i e.on) : Dep ops i j
def Shut (ops : Array Oper) (listed : Array Bool) : Prop :=
 ∀ j o, listed.getD j false = true → ops[j]? = some o → ∀ e ∈ o.after, Region.binds .any e = true → listed.getD e.on false = true
theorem Dep.listed {listed : Array Bool} (hs : Shut ops listed) {i j : Nat} (hd : Dep ops i j) : listed.getD j false = true → listed.getD i false = true := by
 induction hd with
 | edge h he hb hi => intro hl; rw [← hi]; exact hs _ _ hl h _ he hb
 | step h he hb _ ih => intro hl; exact ih (hs _ _ hl h _ he hb)
theorem zart {listed : Array Bool} {i : Nat} (h0 : listed.getD i true = false) : listed.getD i false = false := by
 rcases Nat.lt_or_ge i listed.size with h | h
 ·simp [h] at h0 ⊢; exact h0
 ·simp [Array.getElem?_eq_none h] at h0
theorem Dep.not_ready {listed : Array Bool} (hs : Shut ops listed) {i j : Nat} (hi : listed.getD i true = false) (hj : j ∈ Region.ready .any ops listed) : ¬ Dep ops i j := by
 intro hd
 obtain ⟨_, oj, hoj, hall⟩ := mem_ready.1 hj
 have hif := zart hi
 cases hd with
 | edge h he hb hi' =>
  rw [hoj] at h; cases h
  rw [← hi', hall _ he hb] at hif; cases hif
 | step h he hb hd =>
  rw [hoj] at h; cases h
  have := hd.listed hs (hall _ he hb)
  rw [this] at hif; cases hif
theorem Shut.set {listed : Array Bool} (hs : Shut ops listed) {j : Nat} (hj : j ∈ Region.ready .any ops listed) : Shut ops (listed.setIfInBounds j true) := by
 intro k o hk ho e he hb
 obtain ⟨_, oj, hoj, hall⟩ := mem_ready.1 hj
 by_cases hjk : j = k
 ·subst hjk
  rw [hoj] at ho; cases ho
  exact getD_set_true (hall e he hb)
 ·rw [getD_set_ne false hjk] at hk
  exact getD_set_true (hs k o hk ho e he hb)
theorem zaea {FP : Nat → List Nat × List Nat} {K : FS → Tab → Prop} {i : Nat} {oi : Oper} (hi : ops[i]? = some oi) :
  ∀ (fuel : Nat) (listed : Array Bool) (s s1 : FS) (R R1 : Tab),
   Shut ops listed → (∀ j oj, ops[j]? = some oj → j ≠ i → listed.getD j true = false → ¬ Dep ops i j →
    oi.apart ops oj = true ∧ (∀ r ∈ (FP i).2, r ∉ (FP j).1) ∧ (∀ r ∈ (FP j).2, r ∉ (FP i).1)) →
   i ∈ Region.ready .any ops listed → zoo E rec ops bs i s R = some (s1, R1) → zl8 E rec ops bs i s R = FP i →
   anyA E rec ops bs FP K fuel (listed.setIfInBounds i true) s1 R1 → anyA E rec ops bs FP K (fuel + 1) listed s R := by
 intro fuel
 induction fuel with
 | zero =>
  intro listed s s1 R R1 _ _ hr hs hp H
  refine ⟨fun h => (by rw [h] at hr; cases hr), fun j hj => ?_⟩
  by_cases hji : j = i
  ·subst hji; exact ⟨s1, R1, hs, hp, H⟩
  ·have := ready_mono hj hji
   rw [H.1] at this
   cases this
 | succ fuel ih =>
  intro listed s s1 R R1 hsh hfree hr hs hp H
  refine ⟨fun h => (by rw [h] at hr; cases hr), fun j hj => ?_⟩
  by_cases hji : j = i
  ·subst hji; exact ⟨s1, R1, hs, hp, H⟩
  ·obtain ⟨s2, R2, h2, p2, H2⟩ := H.2 j (ready_mono hj hji)
   obtain ⟨hjun, oj, hoj, hall⟩ := mem_ready.1 hj
   have hnot : ¬ Dep ops i j := Dep.not_ready hsh (mem_ready.1 hr).1 hj
   obtain ⟨hap, e1, e2⟩ := hfree j oj hoj hji hjun hnot
   obtain ⟨s1', R1', g1, g2, g3, g4⟩ := zafl hi hoj hap hs hp h2 p2 e1 e2
   refine ⟨s1', R1', g1, g2, ?_⟩
   have hfree' : ∀ k ok, ops[k]? = some ok → k ≠ i → (listed.setIfInBounds j true).getD k true = false →
     ¬ Dep ops i k → oi.apart ops ok = true ∧ (∀ r ∈ (FP i).2, r ∉ (FP k).1) ∧ (∀ r ∈ (FP k).2, r ∉ (FP i).1) := fun k ok hk hki hun hno => by
    refine hfree k ok hk hki ?_ hno
    by_cases hjk : j = k
    ·subst hjk; exact hjun
    ·rw [getD_set_ne true hjk] at hun; exact hun
   refine ih (listed.setIfInBounds j true) s1' s2 R1' R2 (hsh.set hj) hfree' (ready_mono hr (Ne.symm hji)) g3 g4 ?_
   rw [Array.setIfInBounds_comm _ _ hji]
   exact H2
end
def zipL {α : Type} : List α → List Nat → List (α × Nat)
 | [], _ => []
 | x :: xs, [] => (x, 0) :: zipL xs []
 | x :: xs, b :: bs => (x, b) :: zipL xs bs
theorem z0e {α β : Type} : ∀ (l : List α) (bs : List Nat) (k : List (α × Nat) → β), zipK l bs k = k (zipL l bs)
 | [], _, _ => rfl
 | x :: xs, [], k => by rw [zipK, z0e xs]; rfl
 | x :: xs, b :: bs, k => by rw [zipK, CheckFast.force_eq, z0e xs]; rfl
theorem zf9 {α : Type} {q : α → α → Bool} {i : Nat} {x : α} : ∀ {l : List α} {bs : List Nat}, zl7 q i x (zipL l bs) = true → ∀ j y, l[j]? = some y → ((bs.getD j 0).testBit i || q x y) = true
 | [], _, _, j, y, hy => by simp at hy
 | z :: zs, [], h, j, y, hy => by
  simp only [zipL, zl7, qo] at h
  cases j with
  | zero =>
   simp only [kk, qc] at hy; subst hy
   simpa using h.1
  | succ j =>
   simp only [List.getElem?_cons_succ] at hy
   have := zf9 h.2 j y hy
   simpa using this
 | z :: zs, b :: bs, h, j, y, hy => by
  simp only [zipL, zl7, qo] at h
  cases j with
  | zero =>
   simp only [kk, qc] at hy; subst hy
   simpa using h.1
  | succ j =>
   simp only [List.getElem?_cons_succ] at hy
   have := zf9 h.2 j y hy
   simpa using this
theorem zhs {α : Type} {q : α → α → Bool} : ∀ {l : List α} {bs : List Nat} {k : Nat}, zwj q k (zipL l bs) = true → ∀ i j x y, i < j → l[i]? = some x → l[j]? = some y → ((bs.getD j 0).testBit (k + i) || q x y) = true
 | [], _, k, _, i, j, x, y, _, hx, _ => by simp at hx
 | z :: zs, [], k, h, i, j, x, y, hij, hx, hy => by
  simp only [zipL, zwj, qo, CheckFast.force_eq] at h
  cases j with
  | zero => omega
  | succ j =>
   simp only [List.getElem?_cons_succ] at hy
   cases i with
   | zero =>
    simp only [kk, qc] at hx; subst hx
    have := zf9 h.1 j y hy
    simpa using this
   | succ i =>
    simp only [List.getElem?_cons_succ] at hx
    have := zhs h.2 i j x y (by omega) hx hy
    rw [show k + 1 + i = k + (i + 1) by omega] at this
    simpa using this
 | z :: zs, b :: bs, k, h, i, j, x, y, hij, hx, hy => by
  simp only [zipL, zwj, qo, CheckFast.force_eq] at h
  cases j with
  | zero => omega
  | succ j =>
   simp only [List.getElem?_cons_succ] at hy
   cases i with
   | zero =>
    simp only [kk, qc] at hx; subst hx
    have := zf9 h.1 j y hy
    simpa using this
   | succ i =>
    simp only [List.getElem?_cons_succ] at hx
    have := zhs h.2 i j x y (by omega) hx hy
    rw [show k + 1 + i = k + (i + 1) by omega] at this
    simpa using this
theorem zo0 (ops : Array Oper) (j : Nat) : (CheckFast.beforeL ops.toList 0 []).getD j 0 = (Region.before ops).getD j 0 := by
 rw [← CheckFast.beforeF_eq]
 unfold CheckFast.beforeF
 simp [Array.getD_eq_getD_getElem?, qg]
theorem zir : ∀ {l : List Oper} {k : Nat}, zs4 k l = true → ∀ j o, l[j]? = some o → ∀ e ∈ o.after, Region.binds .any e = true → e.on < k + j
 | [], k, _, j, o, ho => by simp at ho
 | z :: zs, k, h, j, o, ho => by
  simp only [zs4, qo, qt] at h
  cases j with
  | zero =>
   simp only [kk, qc] at ho; subst ho
   intro e he hb
   have := h.1 e (Array.mem_toList_iff.2 he)
   simp [hb] at this; omega
  | succ j =>
   simp only [List.getElem?_cons_succ] at ho
   intro e he hb
   have := zir h.2 j o ho e he hb
   omega
theorem z1u {acc : Array Nat} {i : Nat} : ∀ {l : List Edge} {s : Nat},
  (l.foldl (fun s e => if Region.binds .any e then s ||| 2 ^ e.on ||| acc.getD e.on 0 else s) s).testBit i = true →
   s.testBit i = true ∨ ∃ e ∈ l, Region.binds .any e = true ∧ (e.on = i ∨ (acc.getD e.on 0).testBit i = true)
 | [], s, h => .inl h
 | e :: es, s, h => by
  simp only [List.foldl_cons] at h
  rcases z1u h with h | ⟨e', he', hb, h⟩
  ·split at h
   ·rename_i hb
    simp only [Nat.testBit_or, Bool.or_eq_true, Nat.testBit_two_pow] at h
    rcases h with (h | h) | h
    ·exact .inl h
    ·exact .inr ⟨e, List.mem_cons_self, hb, .inl (by simpa using h)⟩
    ·exact .inr ⟨e, List.mem_cons_self, hb, .inr h⟩
   ·exact .inl h
  ·exact .inr ⟨e', qv _ he', hb, h⟩
theorem zsl {ops : Array Oper} {i : Nat} : ∀ (l : List Oper) (acc : Array Nat) (k : Nat), acc.size = k → (∀ j, l[j]? = ops[k + j]?) →
  (∀ j, (acc.getD j 0).testBit i = true → Dep ops i j) →
  ∀ j, ((l.foldl (fun acc o => acc.push (o.after.foldl (fun s e => if Region.binds .any e then s ||| 2 ^ e.on ||| acc.getD e.on 0 else s) 0)) acc).getD j 0).testBit i = true → Dep ops i j
 | [], acc, k, hk, hl, hd => hd
 | o :: os, acc, k, hk, hl, hd => by
  simp only [List.foldl_cons]
  refine zsl os _ (k + 1) (by simp [hk]) (fun j => by have := hl (j + 1); simpa [Nat.add_assoc, Nat.add_comm 1 j] using this) ?_
  intro j hj
  have ho : ops[k]? = some o := by simpa using (hl 0).symm
  rcases Nat.lt_trichotomy j k with h | h | h
  ·refine hd j ?_
   have : (acc.push (o.after.foldl (fun s e => if Region.binds .any e then s ||| 2 ^ e.on ||| acc.getD e.on 0 else s) 0)).getD j 0 = acc.getD j 0 := by
    simp [Array.getElem?_push_lt (show j < acc.size by omega)]
    rw [Array.getElem?_eq_getElem (by omega)]; rfl
   rwa [this] at hj
  ·subst h
   have : (acc.push (o.after.foldl (fun s e => if Region.binds .any e then s ||| 2 ^ e.on ||| acc.getD e.on 0 else s) 0)).getD j 0 = o.after.foldl (fun s e => if Region.binds .any e then s ||| 2 ^ e.on ||| acc.getD e.on 0 else s) 0 := by
    subst hk; simp
   rw [this, ← Array.foldl_toList] at hj
   rcases z1u hj with h0 | ⟨e, he, hb, h0⟩
   ·simp at h0
   ·rcases h0 with h0 | h0
    ·exact .edge ho (Array.mem_toList_iff.1 he) hb h0
    ·exact .step ho (Array.mem_toList_iff.1 he) hb (hd _ h0)
  ·have : (acc.push (o.after.foldl (fun s e => if Region.binds .any e then s ||| 2 ^ e.on ||| acc.getD e.on 0 else s) 0)).getD j 0 = 0 := by
    rw [Array.getD_eq_getD_getElem?, Array.getElem?_eq_none (by simp; omega)]; rfl
   rw [this] at hj; simp at hj
theorem zvn {ops : Array Oper} {i j : Nat} (h : ((Region.before ops).getD j 0).testBit i = true) : Dep ops i j := by
 unfold Region.before at h
 rw [← Array.foldl_toList] at h
 exact zsl ops.toList #[] 0 rfl (fun j => by simp) (fun j hj => by simp at hj) j h
section
variable {E : Env} {rec : FuncId → List V → Tab → Option (V × Tab)} {ops : Array Oper}
def z1t (n : Nat) (l : List Oper) (i : Nat) : Nat := n + zn8 (l.take i)
theorem zge : ∀ (l : List Oper) (n i : Nat), (zbe n l)[i]? = (l[i]?).map fun o => (o, z1t n l i)
 | [], n, i => by simp [zbe]
 | o :: os, n, i => by
  cases i with
  | zero => simp [zbe, z1t, zn8]
  | succ i => simp [zbe, zge os, z1t, zn8, Nat.add_assoc]
theorem z2g {a b : List Nat} (h : disj a b = true) : ∀ r ∈ a, r ∉ b := by
 intro r hr hb
 have := (qt.1 h) r hr
 simp [hb] at this
theorem z1r {bs : Nat → Nat} {FP : Nat → List Nat × List Nat} (he : zs4 0 ops.toList = true)
  (hfree : ∀ i j oi oj, i < j → ops[i]? = some oi → ops[j]? = some oj → ¬ Dep ops i j → oi.apart ops oj = true ∧ (∀ r ∈ (FP i).2, r ∉ (FP j).1) ∧ (∀ r ∈ (FP j).2, r ∉ (FP i).1)) :
  ∀ (l : List (Oper × Nat)) (k : Nat) (listed : Array Bool) (s s' : zej) (R R' : Tab), (∀ j, (l[j]?).map (·.1) = ops[k + j]?) → (∀ j ob, l[j]? = some ob → ob.2 = bs (k + j)) →
   listed.size = ops.size → (∀ j, j < ops.size → listed.getD j true = decide (j < k)) →
   zgs E rec ops l s R = some (s', R') → (∀ j p, (prints E rec ops l s R)[j]? = some p → FP (k + j) = p) →
   anyA E rec ops bs FP (fun fs R2 => fs = look s' ∧ R2 = R') l.length listed (look s) R
 | [], k, listed, s, s', R, R', hl, hb, hsz, hli, hrun, hfp => by
  simp only [zgs, qc, qr] at hrun
  refine ⟨?_, by rw [hrun.1], hrun.2.symm ▸ rfl⟩
  apply List.eq_nil_iff_forall_not_mem.2
  intro i hi
  obtain ⟨h0, o, ho, _⟩ := mem_ready.1 hi
  have hlt : i < ops.size := (kc.1 ho).1
  have h1 := hli i hlt
  rw [h0] at h1
  have h2 : ¬ i < k := by simpa using h1.symm
  have h3 := hl (i - k)
  rw [show k + (i - k) = i by omega, ho] at h3
  simp at h3
 | (o, base) :: rest, k, listed, s, s', R, R', hl, hb, hsz, hli, hrun, hfp => by
  have ho : ops[k]? = some o := by simpa using (hl 0).symm
  have hklt : k < ops.size := (kc.1 ho).1
  have hbase : base = bs k := by simpa using hb 0 (o, base) rfl
  have hready : k ∈ Region.ready .any ops listed := by
   refine mem_ready.2 ⟨by rw [hli k hklt]; simp, o, ho, fun e hee hbd => ?_⟩
   have hon := zir he k o (by simpa using ho) e hee hbd
   have := hli e.on (by omega)
   rw [qd (by omega)] at this
   have hlt : e.on < listed.size := by omega
   simp [hlt] at this ⊢; exact this
  have hshut : Shut ops listed := by
   intro j oj hj hoj e hee hbd
   have hjlt : j < ops.size := (kc.1 hoj).1
   have hon := zir he j oj (by simpa using hoj) e hee hbd
   have h1 := hli j hjlt
   have hlt : j < listed.size := by omega
   have hjk : j < k := by simp [hlt] at h1 hj; simpa [hj] using h1.symm
   have := hli e.on (by omega)
   rw [qd (by omega)] at this
   have hlt : e.on < listed.size := by omega
   simp [hlt] at this ⊢; exact this
  have hset : ∀ j, j < ops.size → (listed.setIfInBounds k true).getD j true = decide (j < k + 1) := by
   intro j hj
   by_cases hjk : k = j
   ·subst hjk
    have hlt : k < listed.size := by omega
    simp [hlt]
   ·rw [getD_set_ne true hjk, hli j hj]
    simp; omega
  have hstep : ∃ s1 R1, zoo E rec ops bs k (look s) R = some (look s1, R1) ∧ zl8 E rec ops bs k (look s) R = FP k ∧ zgs E rec ops rest s1 R1 = some (s', R') ∧
    (∀ j p, (prints E rec ops rest s1 R1)[j]? = some p → FP (k + 1 + j) = p) := by
   simp only [zgs] at hrun
   simp only [prints] at hfp
   unfold zoo zl8
   simp only [ho]
   cases hg : zc4 ops (look s) o with
   | none => rw [hg] at hrun; cases hrun
   | some wanted =>
    rw [hg] at hrun hfp
    cases wanted with
    | false =>
     refine ⟨putS s o.dst zauh, R, by simp only [zl3], (hfp 0 _ rfl).symm, hrun, fun j p hp => ?_⟩
     have := hfp (j + 1) p (by simpa using hp)
     rwa [show k + (j + 1) = k + 1 + j by omega] at this
    | true =>
     simp only [] at hrun hfp
     rw [hbase] at hrun hfp
     cases hr : (opP E rec o (evOf (look s)) (bs k)).run R with
     | none => rw [hr] at hrun; cases hrun
     | some vR =>
      obtain ⟨v, R1⟩ := vR
      rw [hr] at hrun hfp
      refine ⟨putS s o.dst v, R1, by simp only [zl3], (hfp 0 _ rfl).symm, hrun, fun j p hp => ?_⟩
      have := hfp (j + 1) p (by simpa using hp)
      rwa [show k + (j + 1) = k + 1 + j by omega] at this
  obtain ⟨s1, R1, e1, e2, e3, e4⟩ := hstep
  have hnext := z1r he hfree rest (k + 1) (listed.setIfInBounds k true) s1 s' R1 R'
   (fun j => by have := hl (j + 1); simpa [Nat.add_assoc, Nat.add_comm 1 j] using this)
   (fun j ob hj => by have := hb (j + 1) ob (by simpa using hj); rwa [show k + (j + 1) = k + 1 + j by omega] at this)
   (by simpa using hsz) hset e3 e4
  refine zaea ho rest.length listed (look s) (look s1) R R1 hshut ?_ hready e1 e2 hnext
  intro j oj hoj hjk hun hnd
  have hjlt : j < ops.size := (kc.1 hoj).1
  have := hli j hjlt
  rw [hun] at this
  exact hfree k j o oj (by have : ¬ j < k := by simpa using this.symm
                           omega) ho hoj hnd
theorem zu3 {n : Nat} {s s' : zej} {R R' : Tab} (hs : zacu ops = true) (hd : zayc ops (prints E rec ops (zbe n ops.toList) s R) = true)
  (hrun : zgs E rec ops (zbe n ops.toList) s R = some (s', R')) :
  ∃ FP, anyA E rec ops (z1t n ops.toList) FP (fun fs R2 => fs = look s' ∧ R2 = R') ops.size (Array.replicate ops.size false) (look s) R := by
 simp only [zacu, qo] at hs
 obtain ⟨he, hp⟩ := hs
 let ps := prints E rec ops (zbe n ops.toList) s R
 let FP : Nat → List Nat × List Nat := fun i => (ps[i]?).getD ([], [])
 have hfree : ∀ i j oi oj, i < j → ops[i]? = some oi → ops[j]? = some oj → ¬ Dep ops i j → oi.apart ops oj = true ∧ (∀ r ∈ (FP i).2, r ∉ (FP j).1) ∧ (∀ r ∈ (FP j).2, r ∉ (FP i).1) := by
  intro i j oi oj hij hi hj hnd
  rw [z0e] at hp
  have h1 := zhs hp i j oi oj hij (by simpa using hi) (by simpa using hj)
  rw [zo0] at h1
  simp only [Nat.zero_add, Bool.or_eq_true] at h1
  refine ⟨h1.resolve_left fun h => hnd (zvn h), ?_⟩
  simp only [zayc, Bool.or_eq_true] at hd
  cases hpi : ps[i]? with
  | none => simp only [FP, hpi]; exact ⟨fun r hr => (by cases hr), fun r _ => (by simp)⟩
  | some p =>
   cases hpj : ps[j]? with
   | none => simp only [FP, hpj]; exact ⟨fun r _ => (by simp), fun r hr => (by cases hr)⟩
   | some q =>
    simp only [FP, hpi, hpj]
    rcases hd with hd | hd
    ·have a := qt.1 hd p (qp hpi)
     have b := qt.1 hd q (qp hpj)
     simp only [List.isEmpty_iff] at a b
     simp [a, b]
    ·rw [z0e] at hd
     have h2 := zhs hd i j p q hij hpi hpj
     rw [zo0] at h2
     simp only [Nat.zero_add, Bool.or_eq_true, qo] at h2
     rcases h2 with h2 | h2
     ·exact absurd (zvn h2) hnd
     ·exact ⟨z2g h2.1, z2g h2.2⟩
 refine ⟨FP, ?_⟩
 have hlen : (zbe n ops.toList).length = ops.size := by
  have : ∀ (l : List Oper) (n : Nat), (zbe n l).length = l.length := by
   intro l; induction l with
   | nil => intro n; rfl
   | cons o os ih => intro n; simp [zbe, ih]
  simpa using this ops.toList n
 have := z1r (E := E) (rec := rec) (ops := ops) (bs := z1t n ops.toList) (FP := FP) he hfree (zbe n ops.toList) 0 (Array.replicate ops.size false) s s' R R'
  (fun j => by rw [zge]; simp only [Option.map_map, Nat.zero_add]; cases h : ops[j]? <;> simp [h])
  (fun j ob hj => by
   rw [zge] at hj
   obtain ⟨o, _, rfl⟩ := qf.1 hj
   simp)
  (by simp) (fun j hj => by simp [hj]) hrun (fun j p hp => by simp only [Nat.zero_add, FP, ps, hp, Option.getD_some])
 rwa [hlen] at this
end
end Go.Gm
