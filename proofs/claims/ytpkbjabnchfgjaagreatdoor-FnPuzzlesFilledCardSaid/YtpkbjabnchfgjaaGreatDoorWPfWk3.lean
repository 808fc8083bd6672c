import Derived.Test.YtpkbjabnchfgjaaGreatDoorWPfWk2
noncomputable section
set_option linter.unusedVariables false
set_option linter.unusedSimpArgs false
set_option maxRecDepth 100000
set_option maxHeartbeats 4000000
namespace Go.Proofs.W
open Go Go.Gm Go.Proofs
open Go.RowKit Go.Shelf
def zaxe : FSh := ⟨[(.one (.rw 0 0)), (.clo z3m [(.one (.pb (.list false (.int .i64))))])], [qr2]⟩
def zya : LSh := ⟨(fun ex => match ex with | .norm => (nz [0, 1, 5, 6]) | .exit i => if i = 0 then (nz [0, 5]) else [] | .ret => (nz [4])), [(0, qo4), (1, (.clo z3m [(.one (.pb (.list false (.int .i64))))])), (5, qo1), (6, qo1)], [qr2], [⟨(.exit 0), [(0, qo4), (5, qo1)], [qr2]⟩], [], []⟩
def ze5 : ((Unit × List Int × Int × Int) × List (List Int)) → T (((Unit × List Int × Int × Int) × List (List Int)) ⊕ ((Unit × Int) × List (List Int))) := fun (((), del_0, i, j), s) =>(.test (decide (j < (s.length : Int))) (.test (decide ((0 ≤ j) ∧ (j < (s.length : Int)))) (.sub (s[(0 + (Int.toNat j))]?) fun z0 =>(.sub (F30 (z0, del_0)) fun z1 =>(.test (! z1) (.test (decide ((0 ≤ i) ∧ (i < (s.length : Int)))) (.sub (s[(0 + (Int.toNat i))]?) fun z2 =>(.test (decide ((0 = 0) ∧ (s.length = (List.length (List.set s (0 + (Int.toNat i)) z0))))) (.ret (Sum.inl (((), (del_0, ((w64 (i + 1)), (w64 (j + 1))))), (List.set s (0 + (Int.toNat i)) z0)))) .fail)) .fail) (qz s (.ret (Sum.inl (((), (del_0, (i, (w64 (j + 1))))), s))))))) .fail) (qz s (.ret (Sum.inr (((), i), s)))))
def zamy (v) := zav (fun v => (ze5 v).run) v
def zam0 : List FO := [⟨[(.one (.rf 0 0))], [qr2]⟩]
def F7_t : ((Unit × List Int) × List (List Int)) → T ((Nat × Nat) × List (List Int)) := fun (((), del_0), s) =>(.test (decide ((0 + s.length) ≤ s.length)) (.sub (F11 ((win s 0 s.length), del_0)) fun z0 =>(.test (z0 == (-1)) (.ret ((0, s.length), s)) (qz s (.sub (zamy (((), (del_0, (z0, (w64 (z0 + 1))))), s)) fun z1 =>(.test (decide (0 ≤ z1.1.2)) (.test (decide (((Int.toNat z1.1.2) ≤ z1.2.length) ∧ (z1.2.length ≤ z1.2.length))) (.test (decide ((0 < (z1.2.length - (Int.toNat z1.1.2))) ∧ (((0 + (Int.toNat z1.1.2)) + (z1.2.length - (Int.toNat z1.1.2))) ≤ z1.2.length))) (.test (decide (0 ≤ z1.1.2)) (.test (decide ((0 ≤ (Int.toNat z1.1.2)) ∧ ((Int.toNat z1.1.2) ≤ z1.2.length))) (.ret ((0, ((Int.toNat z1.1.2) - 0)), (zbo z1.2 (0 + (Int.toNat z1.1.2)) (List.replicate (z1.2.length - (Int.toNat z1.1.2)) ([] : List Int))))) .fail) .fail) .fail) .fail) .fail))))) .fail)
def F7_w (v) := (F7_t v).run
def F7_E : TEnv := ((E0.add1 zbdd zahk zahj F11).add1 z3m z81 z80 F30)
theorem za31 : (F7_E).OK := ((E0ok.add1 zbe6).add1 za24)
def zamz : Nat → Option zal := fun id => if id = 5 then some (LSh.told zya 1 (ze5)) else none
theorem zaxd : zan Tryz.prog 1 (zad (zac zaa4) [0]) (LSh.told zya 1 (ze5)) :=
 zak (E := F7_E) (za31) (told := zamz) (l := zya) (step := ze5) (zab (ls := []) (by kernel_rfl) trivial) (by kernel_rfl) (fun v => by kernel_rfl)
theorem zbaw : FOK Tryz.prog zatc zaxe zam0 F7_w :=
 zao (E := F7_E) (za31) (told := zamz) (fl := []) (c := zac zaa4) (s := zaxe) (l := zam0) (tree := F7_t) zayo (by kernel_rfl) (by kernel_rfl) (by kernel_rfl) (zab (ls := [zad (zac zaa4) [0]]) (by kernel_rfl) ⟨.inr ⟨_, by kernel_rfl, zaxd⟩, trivial⟩) (fun v => by kernel_rfl)
def zbav : List FO := [⟨[(.one (.rw 0 0))], [qr2]⟩]
def F7_m : ((Nat × Nat) × List (List Int)) → T (Unit × List (List Int)) := fun ((o, n), r0) => .test (decide (o = 0 ∧ n ≤ r0.length)) (.ret ((), (List.take n r0))) .fail
def F7 (v : ((Unit × List Int) × List (List Int))) : Option (Unit × List (List Int)) := (F7_w v).bind fun o => (F7_m o).run
theorem zbkd : FOK Tryz.prog zatc zaxe zbav F7 :=
 FOK.trunc (l' := zbav) zbaw F7_m (fun o => by kernel_rfl)
theorem z6y (p : List Int) (hp : p.length < 4611686018427387904) (o : List (List Int)) (hl : o.length < 4611686018427387904) : ∀ (m j : Nat) (s : List (List Int)) (i : Nat), j + m = o.length → s.length = o.length → i < j → s.take i = (o.take j).filter (fits p) → s.drop j = o.drop j →
  ∃ (i' : Nat) (s' : List (List Int)), s'.length = o.length ∧ i' < o.length ∧ s'.take i' = o.filter (fits p) ∧ zamy (((), (p, ((i : Int), (j : Int)))), s) = some (((), (i' : Int)), s')
 | 0, j, s, i, hj, hs, hi, h1, h2 => by
  have : j = o.length := by omega
  subst this
  rw [List.take_length] at h1
  refine ⟨i, s, hs, hi, h1, ?_⟩
  simp only [zamy]
  refine zag ?_
  have : ¬ ((o.length : Int) < (s.length : Int)) := by omega
  simp [ze5, T.run, this]
 | m + 1, j, s, i, hj, hs, hi, h1, h2 => by
  have hlt : j < s.length := by omega
  have hlo : j < o.length := by omega
  have he : s[j] = o[j] := by
   rw [qm hlt, qm hlo] at h2
   exact (List.cons.inj h2).1
  have h2' : s.drop (j + 1) = o.drop (j + 1) := by
   rw [qm hlt, qm hlo] at h2
   exact (List.cons.inj h2).2
  have c0 : (j : Int) < (s.length : Int) := by omega
  have c1 : (0 : Int) ≤ (j : Int) ∧ (j : Int) < (s.length : Int) := by omega
  have c2 : (0 : Int) ≤ (i : Int) ∧ (i : Int) < (s.length : Int) := by omega
  have w1 : w64 ((j : Int) + 1) = ((j + 1 : Nat) : Int) := by rw [zae (by omega) (by omega)]; omega
  have w2 : w64 ((i : Int) + 1) = ((i + 1 : Nat) : Int) := by rw [zae (by omega) (by omega)]; omega
  have g1 := qb hlt
  have g2 := qb (show i < s.length by omega)
  have htake : o.take (j + 1) = o.take j ++ [o[j]] := List.take_succ_eq_append_getElem hlo
  cases hf : fits p o[j] with
  | true =>
   have e1 : (s.set i o[j]).take (i + 1) = (o.take (j + 1)).filter (fits p) := by
    rw [List.take_succ_eq_append_getElem (by simp; omega), List.getElem_set_self, List.take_set_of_le (qi _), h1, htake, List.filter_append]
    simp [hf]
   obtain ⟨i', s', r1, r2, r3, r4⟩ := z6y p hp o hl m (j + 1) (s.set i o[j]) (i + 1) (by omega) (by simpa using hs) (by omega) e1 (by rw [List.drop_set_of_lt (by omega)]; exact h2')
   refine ⟨i', s', r1, r2, r3, ?_⟩
   simp only [zamy] at r4 ⊢
   rw [← r4]
   refine zah ?_
   simp only [ze5, T.run, c0, c1, c2, decide_true, if_true, and_self, qe, Nat.zero_add, g1, g2, he, qa, zaju p _ hp, hf, Bool.not_true, Bool.not_false, w1, w2, qy]
  | false =>
   have e1 : s.take i = (o.take (j + 1)).filter (fits p) := by
    rw [h1, htake, List.filter_append]
    simp [hf]
   obtain ⟨i', s', r1, r2, r3, r4⟩ := z6y p hp o hl m (j + 1) s i (by omega) hs (by omega) e1 h2'
   refine ⟨i', s', r1, r2, r3, ?_⟩
   simp only [zamy] at r4 ⊢
   rw [← r4]
   refine zah ?_
   simp only [ze5, T.run, c0, c1, decide_true, if_true, and_self, qe, Nat.zero_add, g1, he, qa, zaju p _ hp, hf, Bool.not_true, Bool.not_false, qj, if_false, w1]
theorem zbkc (s : List (List Int)) (p : List Int) (hp : p.length < 4611686018427387904) (hl : s.length < 4611686018427387904) : F7 (((), p), s) = some ((), s.filter (fits p)) := by
 have hi := zbe5 s p hp hl
 simp only [F7, F7_w, F7_t, T.run, Nat.zero_add, qi, decide_true, if_true, zap, hi, qa, true_and]
 unfold idxI
 cases hf : s.findIdx? (fun q => !fits p q) with
 | none =>
  have hall : s.filter (fits p) = s := by
   rw [List.filter_eq_self]
   intro x hx
   have := List.findIdx?_eq_none_iff.1 hf x hx
   simpa using this
  rw [hall]
  simp [F7_m, T.run]
 | some i =>
  obtain ⟨h1, h2, h3⟩ := List.findIdx?_eq_some_iff_getElem.1 hf
  have ht : s.take i = (s.take (i + 1)).filter (fits p) := by
   rw [List.take_succ_eq_append_getElem h1, List.filter_append]
   have : [s[i]].filter (fits p) = [] := by simp at h2; simp [h2]
   rw [this, kq]
   symm
   rw [List.filter_eq_self]
   intro x hx
   obtain ⟨j, hj, e⟩ := List.mem_take_iff_getElem.1 hx
   have := h3 j (by omega)
   rw [e] at this
   simpa using this
  obtain ⟨i', s', r1, r2, r3, r4⟩ := z6y p hp s hl (s.length - (i + 1)) (i + 1) s i (by omega) rfl (by omega) ht rfl
  have w1 : w64 ((i : Int) + 1) = ((i + 1 : Nat) : Int) := by rw [zae (by omega) (by omega)]; omega
  have hne : ((i : Int) == -1) = false := by rw [zsm]; exact decide_eq_false (by omega)
  have c1 : (0 : Int) ≤ (i' : Int) := by omega
  have c2 : i' ≤ s'.length ∧ s'.length ≤ s'.length := by omega
  have c3 : 0 < s'.length - i' ∧ i' + (s'.length - i') ≤ s'.length := by omega
  have c4 : 0 ≤ i' ∧ i' ≤ s'.length := by omega
  have hsp : (zbo s' i' (List.replicate (s'.length - i') ([] : List Int))).take i' = s.filter (fits p) := by
   unfold zbo
   rw [List.take_append_of_le_length (by rw [kp]; omega), List.take_take, Nat.min_self, r3]
  have hspl : i' ≤ (zbo s' i' (List.replicate (s'.length - i') ([] : List Int))).length := by
   unfold zbo
   simp only [ql, kp, kj, kb]
   omega
  simp only [hne, qj, if_false, w1, r4, qa, c1, c2, c3, c4, decide_true, if_true, and_self, qe, F7_m, T.run, Nat.sub_zero, true_and, hspl, hsp]
def zaj4 : FSh := ⟨[(.ag [(.sl (.int .i64) false false)])], []⟩
def zaj3 : List FO := [⟨[(.one (.rw 0 0))], [qr2]⟩]
def za8k : List Int → T (Unit × List (List Int)) := fun p_0 =>(.sub (F60 (p_0.length : Int)) fun z0 =>(qz z0.2 (.sub (F7 (((), p_0), z0.2)) fun z1 =>(qz z1.2 (.ret ((), z1.2))))))
def F38 (v) := (za8k v).run
def zbf2 : TEnv := ((E0.add1 zbdx zali zalg F60).add1 zatc zaxe zbav F7)
theorem za8j : (zbf2).OK := ((E0ok.add1 zbg2).add1 zbkd)
def zav9 : Nat → Option zal := fun id => none
theorem zbf3 : FOK Tryz.prog zbdi zaj4 zaj3 F38 :=
 zao (E := zbf2) (za8j) (told := zav9) (fl := []) (c := zac za45) (s := zaj4) (l := zaj3) (tree := za8k) zay2 (by kernel_rfl) (by kernel_rfl) (by kernel_rfl) (zab (ls := []) (by kernel_rfl) trivial) (fun v => by kernel_rfl)
def za3c : FSh := ⟨[.one (.sl (.list true (.int .i64)) false false)], []⟩
def za3b : List FO := [⟨[.one (.rw 0 0)], [.row 0 (.list true (.int .i64))]⟩]
def F43 (v : List (List Int)) : Option (Unit × List (List Int)) := if v.length ≤ maxLen ∧ v.length * 24 ≤ 140737488355328 then some ((), v) else none
def zakb : Shelf.Ren := ⟨fun _ => za09, fun t => if t = 4 then 4 else if t = 22 then 28 else 24, fun x => x⟩
theorem za8u : SlLaysE0.n41 Tryz.prog zakb :=
 { mixed := by kernel_rfl, f41 := ⟨"slices.Clone[[][]int,[]int]", by kernel_rfl, by kernel_rfl⟩, t4 := by kernel_rfl, a4 := fun w => by kernel_rfl, z4 := fun w => by kernel_rfl, v4 := fun w => by kernel_rfl, t22 := by kernel_rfl, a22 := fun w => by kernel_rfl, z22 := fun w => by kernel_rfl, v22 := fun w => by kernel_rfl }
def zawc : TypeInfo := (Tryz.prog.info? 24).get (by kernel_rfl)
theorem zbf8 : FOK Tryz.prog za09 za3c za3b F43 :=
 zyh (e := (.list true (.int .i64))) ⟨_, zay7, by kernel_rfl, by kernel_rfl⟩ (ρr := zakb) rfl za8u rfl zawc (.slice none 0 0) 24 (by kernel_rfl) (by kernel_rfl) (by kernel_rfl) (by kernel_rfl) (by decide) (by decide) (fun w => by kernel_rfl)
def zqc : FSh := ⟨[(.ag [(.sl (.int .i64) false false)])], []⟩
def zqb : List FO := [⟨[(.one (.rw 0 0)), (.one .sb)], [qr2]⟩]
def zaf4 : List Int → T ((Unit × Bool) × List (List Int)) := fun p_0 =>(.sub (F109 p_0) fun z0 =>(.test (! z0) (.test true (.ret (((), false), ([] : List (List Int)))) .fail) (.sub (F38 p_0) fun z1 =>(.test (decide ((z1.2.length : Int) > 300)) (.test true (.ret (((), false), ([] : List (List Int)))) .fail) (.test (decide ((0 + z1.2.length) ≤ z1.2.length)) (.sub (F43 (win z1.2 0 z1.2.length)) fun z2 =>(qz z2.2 (.ret (((), true), z2.2)))) .fail)))))
def F102 (v) := (zaf4 v).run
def za2a : TEnv := (((E0.add1 zl5 zhg zhf F109).add1 zbdi zaj4 zaj3 F38).add1 za09 za3c za3b F43)
theorem zau8 : (za2a).OK := (((E0ok.add1 zkc).add1 zbf3).add1 zbf8)
def zaf5 : Nat → Option zal := fun id => none
theorem z42 : FOK Tryz.prog z3k zqc zqb F102 :=
 zao (E := za2a) (zau8) (told := zaf5) (fl := []) (c := zac zap1) (s := zqc) (l := zqb) (tree := zaf4) zaqp (by kernel_rfl) (by kernel_rfl) (by kernel_rfl) (zab (ls := []) (by kernel_rfl) trivial) (fun v => by kernel_rfl)
theorem zqa (p : List Int) (hl : p.length < 4611686018427387904) : F102 p = some (((), (solR p).1), (solR p).2) := by
 rw [F102, zaf4, T.run_sub, zkb p hl, qa, T.run_test]
 unfold solR
 cases hp : isPz p with
 | false => simp [T.run]
 | true =>
  have hpl := zdk hp
  have hq := zye p.length hpl.2
  have hsol : F38 p = some ((), solL p) := by
   have hd := zbkc (allQ p.length) p hl (by omega)
   have hsl : (allQ p.length).filter (fits p) = solL p := rfl
   rw [hsl] at hd
   rw [F38, za8k, T.run_sub, zbg1 p.length hpl, qa, T.run_test, if_pos (by simp), T.run_sub, hd, qa, T.run_test, if_pos (by simp), T.run_ret]
  rw [if_neg (by simp), T.run_sub, hsol, qa]
  have hle := za13 p hpl.2
  generalize solL p = r at *
  have hc : F43 r = some ((), r) := by
   unfold F43
   rw [if_pos]
   exact ⟨by unfold maxLen; omega, by omega⟩
  simp only [T.run_test, T.run_sub, T.run_ret, T.run_fail, Nat.zero_add, zap]
  by_cases h3 : r.length ≤ 300
  ·have c : ¬ ((r.length : Int) > 300) := by omega
   simp [c, h3, hc]
  ·have c : (r.length : Int) > 300 := by omega
   simp [c, h3]
def zh9 : FSh := ⟨[(.ag [(.sl (.int .i64) false false)])], []⟩
def zh8 : List FO := [⟨[(.one .sb)], []⟩]
def zahs : List Int → T Bool := fun p_0 =>(.sub (F147 ((p_0.length : Int), ((3 : Int), (9 : Int)))) fun z0 =>(.test z0 (.sub (F132 (p_0, ((0 : Int), (w64 ((p_0.length : Int) - 2))))) fun z1 =>(.ret z1)) (.ret false)))
def F123 (v) := (zahs v).run
def za2q : TEnv := ((E0.add1 zpd zie zid F147).add1 zab5 zxs zxr F132)
theorem zavo : (za2q).OK := ((E0ok.add1 zni).add1 zaii)
def zaht : Nat → Option zal := fun id => none
theorem zm0 : FOK Tryz.prog zpb zh9 zh8 F123 :=
 zao (E := za2q) (zavo) (told := zaht) (fl := []) (c := zac zaqf) (s := zh9) (l := zh8) (tree := zahs) zaq8 (by kernel_rfl) (by kernel_rfl) (by kernel_rfl) (zab (ls := []) (by kernel_rfl) trivial) (fun v => by kernel_rfl)
theorem zmz (l : List Int) (hl : l.length < 4611686018427387904) : F123 l = some (isPz l) := by
 simp only [F123, zahs, T.run, znh, qa, zaih _ _ _ hl, isPz]
 rw [zae (by omega) (by omega)]
 cases inB 3 9 l.length <;> simp
def zanp : FSh := ⟨[(.one (.si .i64)), (.ag [(.si .i64), (.si .i64)])], []⟩
def zano : List FO := [⟨[(.one .sb)], []⟩]
def zbbp : (Int × (Int × Int)) → T Bool := fun (n, (d_0, d_1)) =>(.sub (F148 n) fun z0 =>(.test z0 (.sub (F147 (d_0, ((0 : Int), (w64 (n - 1))))) fun z1 =>(.test z1 (.sub (F147 (d_1, ((0 : Int), (w64 (n - 1))))) fun z2 =>(.test z2 (.test (decide ((w64 (d_1 - d_0)) ≥ 2)) (.ret (decide ((w64 (d_1 - d_0)) ≤ (w64 (n - 2))))) (.ret false)) (.ret false))) (.ret false))) (.ret false)))
def F91 (v) := (zbbp v).run
def zbii : TEnv := ((E0.add1 zab6 zxx zxw F148).add1 zpd zie zid F147)
theorem zbbo : (zbii).OK := ((E0ok.add1 zai5).add1 zni)
def zaxr : Nat → Option zal := fun id => none
theorem zbik : FOK Tryz.prog zbec zanp zano F91 :=
 zao (E := zbii) (zbbo) (told := zaxr) (fl := []) (c := zac za5w) (s := zanp) (l := zano) (tree := zbbp) za0j (by kernel_rfl) (by kernel_rfl) (by kernel_rfl) (zab (ls := []) (by kernel_rfl) trivial) (fun v => by kernel_rfl)
theorem zbij (n : Int) (d : Dg) (h1 : 3 ≤ n) (h2 : n ≤ 12) : F91 (n, d) = some (inDg n d) := by
 obtain ⟨a, b⟩ := d
 have hp : inB 3 12 n = true := zay.2 ⟨h1, h2⟩
 simp only [F91, zbbp, T.run, F148, z8w, znh, qa, hp, if_true, zae (z := n - 1) (by omega) (by omega), zae (z := n - 2) (by omega) (by omega)]
 cases ha : inB 0 (n - 1) a with
 | false => simp [inDg, ha]
 | true =>
  cases hb : inB 0 (n - 1) b with
  | false => simp [inDg, hb]
  | true =>
   have e : inDg n (a, b) = decide (b - a ≥ 2 ∧ b - a ≤ n - 2) := by
    rw [Bool.eq_iff_iff, zjk, kf]
    rw [zay] at ha hb
    simp only []
    omega
   rw [zay] at ha hb
   rw [zae (z := b - a) (by omega) (by omega), e]
   by_cases g1 : b - a ≥ 2 <;> by_cases g2 : b - a ≤ n - 2 <;> simp [g1, g2]
def zxi : FSh := ⟨[(.ag [(.si .i64), (.si .i64)]), (.ag [(.si .i64), (.si .i64)])], []⟩
def zxh : List FO := [⟨[(.one .sb)], []⟩]
def zag9 : ((Int × Int) × (Int × Int)) → T Bool := fun ((d_0, d_1), (e_0, e_1)) =>(.test (decide (d_0 < e_0)) (.test (decide (e_0 < d_1)) (.test (decide (d_1 < e_1)) (.ret true) (.test (decide (e_0 < d_0)) (.test (decide (d_0 < e_1)) (.ret (decide (e_1 < d_1))) (.ret false)) (.ret false))) (.test (decide (e_0 < d_0)) (.test (decide (d_0 < e_1)) (.ret (decide (e_1 < d_1))) (.ret false)) (.ret false))) (.test (decide (e_0 < d_0)) (.test (decide (d_0 < e_1)) (.ret (decide (e_1 < d_1))) (.ret false)) (.ret false)))
def F116 (v) := (zag9 v).run
def za2j : TEnv := E0
theorem zavi : (za2j).OK := E0ok
def zaha : Nat → Option zal := fun id => none
theorem zag8 : FOK Tryz.prog zab1 zxi zxh F116 :=
 zao (E := za2j) (zavi) (told := zaha) (fl := []) (c := zac zap9) (s := zxi) (l := zxh) (tree := zag9) zaq2 (by kernel_rfl) (by kernel_rfl) (by kernel_rfl) (zab (ls := []) (by kernel_rfl) trivial) (fun v => by kernel_rfl)
theorem zag7 (d e : Dg) : F116 (d, e) = some (zbc d e) := by
 obtain ⟨a, b⟩ := d
 obtain ⟨c, f⟩ := e
 simp only [F116, zag9, T.run, zbc]
 by_cases h1 : a < c <;> by_cases h2 : c < b <;> by_cases h3 : b < f <;> by_cases h4 : c < a <;> by_cases h5 : a < f <;> by_cases h6 : f < b <;> simp [h1, h2, h3, h4, h5, h6]
def zhe : FSh := ⟨[(.one (.si .i64)), (.one (.sl (.pair (.int .i64) (.int .i64)) false false)), (.one (.sl (.pair (.int .i64) (.int .i64)) false false)), (.one (.pf 0 0 0))], [(.rcd 0 [(.rw 1 0)]), (.row 0 (.list true (.pair (.int .i64) (.int .i64))))]⟩
def zhd : List FO := [⟨[], [(.rcd 0 [(.rw 1 1)]), (.row 1 (.list true (.pair (.int .i64) (.int .i64))))]⟩]
def zmr : LSh := ⟨(fun ex => match ex with | .norm => (nz [0, 1, 2, 3, 8, 9, 10, 28, 29, 30, 35, 36, 37]) | .exit i => if i = 2 then (nz [0, 1, 2, 3, 8, 9, 10, 28, 29, 30]) else if i = 1 then (nz [0, 1, 2, 3, 28, 29, 30]) else if i = 0 then [] else [] | .ret => []), [(0, qo1), (1, (.one (.sl (.pair (.int .i64) (.int .i64)) false false))), (2, (.one (.sl (.pair (.int .i64) (.int .i64)) false false))), (3, qo3), (8, qo1), (9, (.one (.pf 2 0 0))), (10, qo2), (28, (.one (.sl (.pair (.int .i64) (.int .i64)) false false))), (29, qo1), (30, qo1), (35, (.one (.sl (.pair (.int .i64) (.int .i64)) false false))), (36, qo1), (37, qo1)], [(.rcd 0 [(.rw 1 1)]), (.row 1 (.list true (.pair (.int .i64) (.int .i64)))), (.rcd 0 [(.si .i64), (.si .i64)])], [⟨(.exit 2), [(0, qo1), (1, (.one (.sl (.pair (.int .i64) (.int .i64)) false false))), (2, (.one (.sl (.pair (.int .i64) (.int .i64)) false false))), (3, qo3), (8, qo1), (9, (.one (.pf 2 0 0))), (10, qo2), (28, (.one (.sl (.pair (.int .i64) (.int .i64)) false false))), (29, qo1), (30, qo1)], [(.rcd 0 [(.rw 1 1)]), (.row 1 (.list true (.pair (.int .i64) (.int .i64)))), (.rcd 0 [(.si .i64), (.si .i64)])]⟩], [], []⟩
def zb4 (recv : ((Int × List (Int × Int) × List (Int × Int) × Unit) × (Unit × List (List (Int × Int)))) → Option (Unit × (Unit × List (List (Int × Int))))) : ((Int × List (Int × Int) × List (Int × Int) × Unit × Int × Unit × Bool × List (Int × Int) × Int × Int × List (Int × Int) × Int × Int) × (Unit × List (List (Int × Int)) × (Int × Int))) → T (((Int × List (Int × Int) × List (Int × Int) × Unit × Int × Unit × Bool × List (Int × Int) × Int × Int × List (Int × Int) × Int × Int) × (Unit × List (List (Int × Int)) × (Int × Int))) ⊕ ((Int × List (Int × Int) × List (Int × Int) × Unit × Int × Unit × Bool × List (Int × Int) × Int × Int) × (Unit × List (List (Int × Int)) × (Int × Int)))) := fun ((n, all, begin, (), i, (), free, t28, t29, t30, t35, t36, t37), ((), out_r, (d_0, d_1))) =>
 (.test (decide (t37 < t36))
 (.test (decide ((0 ≤ t37) ∧ (t37 < (t35.length : Int))))
 (.sub (t35[(Int.toNat t37)]?) fun z0 =>
 (.test free
 (.sub (F116 ((d_0, d_1), (z0.1, z0.2))) fun z1 =>
 (.test (decide ((0 = 0) ∧ (out_r.length = out_r.length)))
 (.ret (Sum.inl ((n, (all, (begin, ((), (i, ((), ((! z1), (t28, (t29, (t30, (t35, (t36, (w64 (t37 + 1)))))))))))))), ((), (out_r, (d_0, d_1))))))
 .fail))
 (.test (decide ((0 = 0) ∧ (out_r.length = out_r.length)))
 (.ret (Sum.inl ((n, (all, (begin, ((), (i, ((), (false, (t28, (t29, (t30, (t35, (t36, (w64 (t37 + 1)))))))))))))), ((), (out_r, (d_0, d_1))))))
 .fail)))
 .fail)
 (.test (decide ((0 = 0) ∧ (out_r.length = out_r.length)))
 (.ret (Sum.inr ((n, (all, (begin, ((), (i, ((), (free, (t28, (t29, t30))))))))), ((), (out_r, (d_0, d_1))))))
 .fail))
def zqe (recv : ((Int × List (Int × Int) × List (Int × Int) × Unit) × (Unit × List (List (Int × Int)))) → Option (Unit × (Unit × List (List (Int × Int))))) (v : ((Int × List (Int × Int) × List (Int × Int) × Unit × Int × Unit × Bool × List (Int × Int) × Int × Int × List (Int × Int) × Int × Int) × (Unit × List (List (Int × Int)) × (Int × Int)))) : Option ((Int × List (Int × Int) × List (Int × Int) × Unit × Int × Unit × Bool × List (Int × Int) × Int × Int) × (Unit × List (List (Int × Int)) × (Int × Int))) := zav (fun v => (zb4 recv v).run) v
def zmq : LSh := ⟨(fun ex => match ex with | .norm => (nz [0, 1, 2, 3, 28, 29, 30]) | .exit i => if i = 0 then [] else [] | .ret => []), [(0, qo1), (1, (.one (.sl (.pair (.int .i64) (.int .i64)) false false))), (2, (.one (.sl (.pair (.int .i64) (.int .i64)) false false))), (3, qo3), (28, (.one (.sl (.pair (.int .i64) (.int .i64)) false false))), (29, qo1), (30, qo1)], [(.rcd 0 [(.rw 1 1)]), (.row 1 (.list true (.pair (.int .i64) (.int .i64))))], [⟨(.exit 0), [], [(.rcd 0 [(.rw 1 1)]), (.row 1 (.list true (.pair (.int .i64) (.int .i64))))]⟩], [], [1]⟩
def zck (recv : ((Int × List (Int × Int) × List (Int × Int) × Unit) × (Unit × List (List (Int × Int)))) → Option (Unit × (Unit × List (List (Int × Int))))) : ((Int × List (Int × Int) × List (Int × Int) × Unit × List (Int × Int) × Int × Int) × (Unit × List (List (Int × Int)))) → T (((Int × List (Int × Int) × List (Int × Int) × Unit × List (Int × Int) × Int × Int) × (Unit × List (List (Int × Int)))) ⊕ (Unit × (Unit × List (List (Int × Int))))) := fun ((n, all, begin, (), t28, t29, t30), ((), out_r)) =>
 (.test (decide (t30 < t29))
 (.test (decide ((0 ≤ t30) ∧ (t30 < (t28.length : Int))))
 (.sub (t28[(Int.toNat t30)]?) fun z0 =>
 (.test (decide ((0 = 0) ∧ (out_r.length = out_r.length)))
 (.sub (zqe recv ((n, (all, (begin, ((), (t30, ((), (true, (t28, (t29, (t30, (begin, ((begin.length : Int), (0 : Int))))))))))))), ((), (out_r, (z0.1, z0.2))))) fun z1 =>
 (.test z1.1.2.2.2.2.2.2.1
 (.test (decide (0 ≤ (w64 (z1.1.2.2.2.2.1 + 1))))
 (.test (decide (((Int.toNat (w64 (z1.1.2.2.2.2.1 + 1))) ≤ z1.1.2.1.length) ∧ (z1.1.2.1.length ≤ z1.1.2.1.length)))
 (.test true
 (.test (decide ((2 * ((0 + z1.1.2.2.1.length) * (16 + 1))) ≤ 140737488355328))
 (.test (decide (1 ≤ (List.length (List.set (List.replicate 1 ((0 : Int), (0 : Int))) 0 (z1.2.2.2.1, z1.2.2.2.2)))))
 (.test (decide ((0 + (0 + z1.1.2.2.1.length)) ≤ (List.length ((win (List.replicate 0 ((0 : Int), (0 : Int))) 0 0) ++ z1.1.2.2.1))))
 (.test (decide ((2 * (((0 + z1.1.2.2.1.length) + (List.length (win (List.set (List.replicate 1 ((0 : Int), (0 : Int))) 0 (z1.2.2.2.1, z1.2.2.2.2)) 0 1))) * (16 + 1))) ≤ 140737488355328))
 (.test (decide ((0 + ((0 + z1.1.2.2.1.length) + (List.length (win (List.set (List.replicate 1 ((0 : Int), (0 : Int))) 0 (z1.2.2.2.1, z1.2.2.2.2)) 0 1)))) ≤ (List.length ((win ((win (List.replicate 0 ((0 : Int), (0 : Int))) 0 0) ++ z1.1.2.2.1) 0 (0 + z1.1.2.2.1.length)) ++ (win (List.set (List.replicate 1 ((0 : Int), (0 : Int))) 0 (z1.2.2.2.1, z1.2.2.2.2)) 0 1)))))
 (.test (decide ((0 = 0) ∧ (z1.2.2.1.length = z1.2.2.1.length)))
 (.sub (recv ((z1.1.1, ((win z1.1.2.1 (Int.toNat (w64 (z1.1.2.2.2.2.1 + 1))) (z1.1.2.1.length - (Int.toNat (w64 (z1.1.2.2.2.2.1 + 1))))), ((win ((win ((win (List.replicate 0 ((0 : Int), (0 : Int))) 0 0) ++ z1.1.2.2.1) 0 (0 + z1.1.2.2.1.length)) ++ (win (List.set (List.replicate 1 ((0 : Int), (0 : Int))) 0 (z1.2.2.2.1, z1.2.2.2.2)) 0 1)) 0 ((0 + z1.1.2.2.1.length) + (List.length (win (List.set (List.replicate 1 ((0 : Int), (0 : Int))) 0 (z1.2.2.2.1, z1.2.2.2.2)) 0 1)))), ()))), ((), z1.2.2.1))) fun z2 =>
 (.test (decide ((0 = 0) ∧ (z2.2.2.length = z2.2.2.length)))
 (.ret (Sum.inl ((z1.1.1, (z1.1.2.1, (z1.1.2.2.1, ((), (z1.1.2.2.2.2.2.2.2.1, (z1.1.2.2.2.2.2.2.2.2.1, (w64 (z1.1.2.2.2.2.2.2.2.2.2 + 1)))))))), ((), z2.2.2))))
 .fail))
 .fail)
 .fail)
 .fail)
 .fail)
 .fail)
 .fail)
 .fail)
 .fail)
 .fail)
 (.test (decide ((0 = 0) ∧ (z1.2.2.1.length = z1.2.2.1.length)))
 (.ret (Sum.inl ((z1.1.1, (z1.1.2.1, (z1.1.2.2.1, ((), (z1.1.2.2.2.2.2.2.2.1, (z1.1.2.2.2.2.2.2.2.2.1, (w64 (z1.1.2.2.2.2.2.2.2.2.2 + 1)))))))), ((), z1.2.2.1))))
 .fail)))
 .fail))
 .fail)
 (.test (decide ((0 = 0) ∧ (out_r.length = out_r.length)))
 (.ret (Sum.inr ((), ((), out_r))))
 .fail))
def zqd (recv : ((Int × List (Int × Int) × List (Int × Int) × Unit) × (Unit × List (List (Int × Int)))) → Option (Unit × (Unit × List (List (Int × Int))))) (v : ((Int × List (Int × Int) × List (Int × Int) × Unit × List (Int × Int) × Int × Int) × (Unit × List (List (Int × Int))))) : Option (Unit × (Unit × List (List (Int × Int)))) := zav (fun v => (zck recv v).run) v
def zaf8 (recv : ((Int × List (Int × Int) × List (Int × Int) × Unit) × (Unit × List (List (Int × Int)))) → Option (Unit × (Unit × List (List (Int × Int))))) : ((Int × List (Int × Int) × List (Int × Int) × Unit) × (Unit × List (List (Int × Int)))) → T (Unit × (Unit × List (List (Int × Int)))) := fun ((n, all, begin, ()), ((), out_r)) =>
 (.test ((begin.length : Int) == (w64 (n - 3)))
 (.test true
 (.test (decide ((2 * ((0 + begin.length) * (16 + 1))) ≤ 140737488355328))
 (.test (decide ((0 + (0 + begin.length)) ≤ (List.length ((win (List.replicate 0 ((0 : Int), (0 : Int))) 0 0) ++ begin))))
 (.test (decide (1 ≤ (List.length (List.set (List.replicate 1 ([] : List (Int × Int))) 0 (win ((win (List.replicate 0 ((0 : Int), (0 : Int))) 0 0) ++ begin) 0 (0 + begin.length))))))
 (.test (decide ((0 + out_r.length) ≤ out_r.length))
 (.test (decide ((2 * ((out_r.length + (List.length (win (List.set (List.replicate 1 ([] : List (Int × Int))) 0 (win ((win (List.replicate 0 ((0 : Int), (0 : Int))) 0 0) ++ begin) 0 (0 + begin.length))) 0 1))) * (24 + 1))) ≤ 140737488355328))
 (.test (decide ((0 = 0) ∧ ((out_r.length + (List.length (win (List.set (List.replicate 1 ([] : List (Int × Int))) 0 (win ((win (List.replicate 0 ((0 : Int), (0 : Int))) 0 0) ++ begin) 0 (0 + begin.length))) 0 1))) = (List.length ((win out_r 0 out_r.length) ++ (win (List.set (List.replicate 1 ([] : List (Int × Int))) 0 (win ((win (List.replicate 0 ((0 : Int), (0 : Int))) 0 0) ++ begin) 0 (0 + begin.length))) 0 1))))))
 (.ret ((), ((), ((win out_r 0 out_r.length) ++ (win (List.set (List.replicate 1 ([] : List (Int × Int))) 0 (win ((win (List.replicate 0 ((0 : Int), (0 : Int))) 0 0) ++ begin) 0 (0 + begin.length))) 0 1)))))
 .fail)
 .fail)
 .fail)
 .fail)
 .fail)
 .fail)
 .fail)
 (.test (decide ((0 = 0) ∧ (out_r.length = out_r.length)))
 (.sub (zqd recv ((n, (all, (begin, ((), (all, ((all.length : Int), (0 : Int))))))), ((), out_r))) fun z0 =>
 (.test (decide ((0 = 0) ∧ (z0.2.2.length = z0.2.2.length)))
 (.ret ((), ((), z0.2.2)))
 .fail))
 .fail))
def zqf (recv : ((Int × List (Int × Int) × List (Int × Int) × Unit) × (Unit × List (List (Int × Int)))) → Option (Unit × (Unit × List (List (Int × Int))))) (v : ((Int × List (Int × Int) × List (Int × Int) × Unit) × (Unit × List (List (Int × Int))))) : Option (Unit × (Unit × List (List (Int × Int)))) := (zaf8 recv v).run
def F103 : ((Int × List (Int × Int) × List (Int × Int) × Unit) × (Unit × List (List (Int × Int)))) → Option (Unit × (Unit × List (List (Int × Int)))) := recF zqf
def z78 (recv : ((Int × List (Int × Int) × List (Int × Int) × Unit) × (Unit × List (List (Int × Int)))) → Option (Unit × (Unit × List (List (Int × Int))))) : TEnv := ((E0.add1 zab1 zxi zxh F116).add1 zi0 zhe zhd recv)
theorem zw9 (recv : ((Int × List (Int × Int) × List (Int × Int) × Unit) × (Unit × List (List (Int × Int)))) → Option (Unit × (Unit × List (List (Int × Int))))) (hrec : FOK Tryz.prog zi0 zhe zhd recv) : (z78 recv).OK := ((E0ok.add1 zag8).add1 hrec)
def zqh (recv : ((Int × List (Int × Int) × List (Int × Int) × Unit) × (Unit × List (List (Int × Int)))) → Option (Unit × (Unit × List (List (Int × Int))))) : Nat → Option zal := fun id => if id = 7 then some (LSh.told zmr 2 (zb4 recv)) else if id = 3 then some (LSh.told zmq 2 (zck recv)) else none
theorem zada (recv : ((Int × List (Int × Int) × List (Int × Int) × Unit) × (Unit × List (List (Int × Int)))) → Option (Unit × (Unit × List (List (Int × Int))))) (hrec : FOK Tryz.prog zi0 zhe zhd recv) : zan Tryz.prog 2 (zad (zac zgo) [0, 0]) (LSh.told zmr 2 (zb4 recv)) :=
 zak (E := z78 recv) (zw9 recv hrec) (told := zqh recv) (l := zmr) (step := zb4 recv) (zab (ls := []) (by kernel_rfl) trivial) (by kernel_rfl) (fun v => by kernel_rfl)
theorem zac9 (recv : ((Int × List (Int × Int) × List (Int × Int) × Unit) × (Unit × List (List (Int × Int)))) → Option (Unit × (Unit × List (List (Int × Int))))) (hrec : FOK Tryz.prog zi0 zhe zhd recv) : zan Tryz.prog 2 (zad (zac zgo) [0]) (LSh.told zmq 2 (zck recv)) :=
 zak (E := z78 recv) (zw9 recv hrec) (told := zqh recv) (l := zmq) (step := zck recv) (zab (ls := [zad (zac zgo) [0, 0]]) (by kernel_rfl) ⟨.inr ⟨_, by kernel_rfl, zada recv hrec⟩, trivial⟩) (by kernel_rfl) (fun v => by kernel_rfl)
theorem zau9 (recv : ((Int × List (Int × Int) × List (Int × Int) × Unit) × (Unit × List (List (Int × Int)))) → Option (Unit × (Unit × List (List (Int × Int))))) (hrec : FOK Tryz.prog zi0 zhe zhd recv) : FOK Tryz.prog zi0 zhe zhd (zqf recv) :=
 zao (E := z78 recv) (zw9 recv hrec) (told := zqh recv) (fl := []) (c := zac zgo) (s := zhe) (l := zhd) (tree := zaf8 recv) z2o (by kernel_rfl) (by kernel_rfl) (by kernel_rfl) (zab (ls := [zad (zac zgo) [0]]) (by kernel_rfl) ⟨.inr ⟨_, by kernel_rfl, zac9 recv hrec⟩, trivial⟩) (fun v => by kernel_rfl)
theorem za6i : FOK Tryz.prog zi0 zhe zhd F103 := FOK.rec (fun F h => zau9 F h) zmb
theorem zaf7 (recv : _ → Option _) (n : Int) (all b : List Dg) (i t29 t30 : Int) (t28 : List Dg) (d : Dg) (out : List (List Dg)) (hb : b.length < 1000000) :
  zqe recv ((n, (all, (b, ((), (i, ((), (true, (t28, (t29, (t30, (b, ((b.length : Int), (0 : Int))))))))))))), ((), (out, d))) = some ((n, (all, (b, ((), (i, ((), (zk1 d b, (t28, (t29, t30))))))))), ((), (out, d))) := by
 obtain ⟨d0, d1⟩ := d
 have key : ∀ m k (f : Bool), k + m = b.length → zqe recv ((n, (all, (b, ((), (i, ((), (f, (t28, (t29, (t30, (b, ((b.length : Int), (k : Int))))))))))))), ((), (out, (d0, d1)))) = some ((n, (all, (b, ((), (i, ((), ((f && !(b.drop k).any (zbc (d0, d1))), (t28, (t29, t30))))))))), ((), (out, (d0, d1)))) := by
  intro m
  induction m with
  | zero =>
   intro k f hk
   have : k = b.length := by omega
   subst this
   simp only [zqe]
   exact zag (by simp [zb4, T.run])
  | succ m ih =>
   intro k f hk
   have hlt : k < b.length := by omega
   have c0 : (k : Int) < (b.length : Int) := by omega
   have c1 : (0 : Int) ≤ (k : Int) ∧ (k : Int) < (b.length : Int) := by omega
   have w1 : w64 ((k : Int) + 1) = ((k + 1 : Nat) : Int) := by rw [zae (by omega) (by omega)]; omega
   rw [zs3 hlt, List.any_cons]
   have ih := ih (k + 1) (f && !zbc (d0, d1) (gD b k)) (by omega)
   simp only [zqe] at ih ⊢
   have st : (zb4 recv ((n, (all, (b, ((), (i, ((), (f, (t28, (t29, (t30, (b, ((b.length : Int), (k : Int))))))))))))), ((), (out, (d0, d1))))).run =
     some (.inl ((n, (all, (b, ((), (i, ((), ((f && !zbc (d0, d1) (gD b k)), (t28, (t29, (t30, (b, ((b.length : Int), ((k + 1 : Nat) : Int))))))))))))), ((), (out, (d0, d1))))) := by
    cases f with
    | true => simp only [zb4, T.run, c0, c1, decide_true, if_true, and_self, true_and, qe, zdh hlt, qa, zag7, w1, Bool.true_and]
    | false => simp only [zb4, T.run, c0, c1, decide_true, if_true, and_self, true_and, qe, zdh hlt, qa, w1, Bool.false_and, qj, if_false]
   rw [zah st, ih]
   congr 2
   cases f <;> cases zbc (d0, d1) (gD b k) <;> simp
 have := key b.length 0 true (by omega)
 simpa [zk1] using this
theorem zqg (n : Nat) (t b : List Dg) (recv : _ → Option _) (hn : 3 ≤ n ∧ n ≤ 9) (ht : t.length ≤ 27) (hb : b.length < 1000) :
  ∀ (m i : Nat) (out : List (List Dg)), i + m = t.length → out.length + 2 ^ m ≤ 1000000000 →
  (∀ (j : Nat) (out : List (List Dg)), i ≤ j → j < t.length → out.length + 2 ^ (t.length - (j + 1)) ≤ 1000000000 →
   recv (((n : Int), (t.drop (j + 1), (b ++ [gD t j], ()))), ((), out)) = some ((), ((), out ++ zen (n - 3) (t.drop (j + 1)) (b ++ [gD t j])))) →
  zqd recv (((n : Int), (t, (b, ((), (t, ((t.length : Int), (i : Int))))))), ((), out)) = some ((), ((), out ++ goL (n - 3) (t.drop i) b))
 | 0, i, out, hi, ho, hr => by
  have : i = t.length := by omega
  subst this
  rw [List.drop_length]
  simp only [zqd, goL, kq]
  exact zag (by simp [zck, T.run])
 | m + 1, i, out, hi, ho, hr => by
  have hlt : i < t.length := by omega
  have c0 : (i : Int) < (t.length : Int) := by omega
  have c2 : (0 : Int) ≤ (i : Int) ∧ (i : Int) < (t.length : Int) := by omega
  have w1 : w64 ((i : Int) + 1) = ((i + 1 : Nat) : Int) := by rw [zae (by omega) (by omega)]; omega
  have hp : 2 ^ (m + 1) = 2 ^ m + 2 ^ m := by rw [Nat.pow_succ]; omega
  have hp0 : 1 ≤ 2 ^ m := Nat.one_le_two_pow
  have hm : m = t.length - (i + 1) := by omega
  have hfree := zaf7 recv (n : Int) t b (i : Int) (t.length : Int) (i : Int) t (gD t i) out (by omega)
  rw [zs3 hlt, zjj]
  cases hf : zk1 (gD t i) b with
  | false =>
   have ih := zqg n t b recv hn ht hb m (i + 1) out (by omega) (by omega) (fun j o h1 h2 h3 => hr j o (by omega) h2 h3)
   rw [hf] at hfree
   simp only [qj, if_false, qw]
   simp only [zqd] at ih ⊢
   rw [← ih]
   refine zah ?_
   simp only [zck, T.run, c0, c2, decide_true, if_true, true_and, and_self, qe, zdh hlt, qa, hfree, qj, if_false, w1]
  | true =>
   have hrec := hr i out (qi _) hlt (by rw [← hm]; omega)
   have hll := zabt (t := t) (b := b ++ [gD t i]) (i := i) (k := n - 3) hm
   have ih := zqg n t b recv hn ht hb m (i + 1) (out ++ zen (n - 3) (t.drop (i + 1)) (b ++ [gD t i])) (by omega) (by rw [ql]; omega) (fun j o h1 h2 h3 => hr j o (by omega) h2 h3)
   rw [hf] at hfree
   simp only [if_true]
   rw [← List.append_assoc]
   simp only [zqd] at ih ⊢
   rw [← ih]
   refine zah ?_
   have c1 : (0 : Int) ≤ ((i + 1 : Nat) : Int) := by omega
   have c3 : i + 1 ≤ t.length ∧ t.length ≤ t.length := by omega
   have c4 : 2 * ((0 + b.length) * (16 + 1)) ≤ 140737488355328 := by omega
   have c5 : 2 * ((0 + b.length + 1) * (16 + 1)) ≤ 140737488355328 := by omega
   have hw0 : win ([] : List Dg) 0 0 = [] := rfl
   have hw1 : win b 0 (0 + b.length) = b := by rw [Nat.zero_add]; exact zap _
   have hl1 : (b ++ [gD t i]).length = 0 + b.length + 1 := by simp
   have hw2 : win (b ++ [gD t i]) 0 (0 + b.length + 1) = b ++ [gD t i] := by rw [← hl1]; exact zap _
   have hw3 : win t (i + 1) (t.length - (i + 1)) = t.drop (i + 1) := by unfold win; rw [List.take_of_length_le (by rw [kb]; omega)]
   simp only [zck, T.run, c0, c1, c2, c3, c4, c5, decide_true, if_true, true_and, and_self, qe, zdh hlt, qa, hfree, w1, List.replicate_zero, hw0, qw, hw1, zc9, qk, qq, hw2, hw3, hrec, qy, kj, qi, ql]
   simp
theorem zaf6 (n : Nat) (hn : 3 ≤ n ∧ n ≤ 9) : ∀ (k : Nat) (t b : List Dg) (out : List (List Dg)), t.length ≤ 27 → t.length < k → b.length + t.length < 100 → out.length + 2 ^ t.length ≤ 1000000000 →
  recN zqf k (((n : Int), (t, (b, ()))), ((), out)) = some ((), ((), out ++ zen (n - 3) t b))
 | 0, t, b, out, ht, hk, hb, ho => absurd hk (Nat.not_lt_zero _)
 | k + 1, t, b, out, ht, hk, hb, ho => by
  show zqf (recN zqf k) _ = _
  have hp : 1 ≤ 2 ^ t.length := Nat.one_le_two_pow
  have w0 : w64 ((n : Int) - 3) = ((n - 3 : Nat) : Int) := by rw [zae (by omega) (by omega)]; omega
  simp only [zqf, zaf8, T.run, w0]
  by_cases hl : b.length = n - 3
  ·have e : ((b.length : Int) == ((n - 3 : Nat) : Int)) = true := by simp; omega
   have c1 : 2 * ((out.length + 1) * (24 + 1)) ≤ 140737488355328 := by omega
   have c2 : 2 * (b.length * (16 + 1)) ≤ 140737488355328 := by omega
   have hone : win (List.set (List.replicate 1 ([] : List Dg)) 0 b) 0 1 = [b] := rfl
   have hw0 : win ([] : List Dg) 0 0 = [] := rfl
   have hw1 : win b 0 (0 + b.length) = b := by rw [Nat.zero_add]; exact zap _
   unfold zen
   rw [if_pos hl]
   simp only [e, if_true, List.replicate_zero, hw0, qw, hw1, c2, decide_true, hone, qk, qq, c1, zap, qy, kj, qi, ql, true_and, Nat.zero_add]
  ·have e : ((b.length : Int) == ((n - 3 : Nat) : Int)) = false := by simp; omega
   unfold zen
   rw [if_neg hl]
   have h3 := zqg n t b (recN zqf k) hn ht (by omega) t.length 0 out (by omega) ho (fun j o h1 h2 h3 => by
    exact zaf6 n hn k (t.drop (j + 1)) (b ++ [gD t j]) o (by rw [kb]; omega) (by rw [kb]; omega) (by rw [kb, ql, qk, qq]; omega) (by rw [kb]; exact h3))
   rw [List.drop_zero, ka] at h3
   simp only [e, qj, if_false, true_and, decide_true, if_true, h3, qa]
def z5v : FSh := ⟨[(.one (.si .i64)), (.one (.sl (.pair (.int .i64) (.int .i64)) false false)), (.one (.sl (.pair (.int .i64) (.int .i64)) false false)), (.one (.pf 0 0 0))], [(.rcd 0 [(.nl true true)])]⟩
def zm2 : LSh := ⟨(fun ex => match ex with | .norm => (nz [0, 1, 2, 3, 8, 9, 10, 28, 29, 30, 35, 36, 37]) | .exit i => if i = 2 then (nz [0, 1, 2, 3, 8, 9, 10, 28, 29, 30]) else if i = 1 then (nz [0, 1, 2, 3, 28, 29, 30]) else if i = 0 then [] else [] | .ret => []), [(0, qo1), (1, (.one (.sl (.pair (.int .i64) (.int .i64)) false false))), (2, (.one (.sl (.pair (.int .i64) (.int .i64)) false false))), (3, qo3), (8, qo1), (9, (.one (.pf 2 0 0))), (10, qo2), (28, (.one (.sl (.pair (.int .i64) (.int .i64)) false false))), (29, qo1), (30, qo1), (35, (.one (.sl (.pair (.int .i64) (.int .i64)) false false))), (36, qo1), (37, qo1)], [(.rcd 0 [(.rw 1 0)]), (.row 0 (.list true (.pair (.int .i64) (.int .i64)))), (.rcd 0 [(.si .i64), (.si .i64)])], [⟨(.exit 2), [(0, qo1), (1, (.one (.sl (.pair (.int .i64) (.int .i64)) false false))), (2, (.one (.sl (.pair (.int .i64) (.int .i64)) false false))), (3, qo3), (8, qo1), (9, (.one (.pf 2 0 0))), (10, qo2), (28, (.one (.sl (.pair (.int .i64) (.int .i64)) false false))), (29, qo1), (30, qo1)], [(.rcd 0 [(.rw 1 0)]), (.row 0 (.list true (.pair (.int .i64) (.int .i64)))), (.rcd 0 [(.si .i64), (.si .i64)])]⟩], [], []⟩
def zb5 : ((Int × List (Int × Int) × List (Int × Int) × Unit × Int × Unit × Bool × List (Int × Int) × Int × Int × List (Int × Int) × Int × Int) × (Unit × List (List (Int × Int)) × (Int × Int))) → T (((Int × List (Int × Int) × List (Int × Int) × Unit × Int × Unit × Bool × List (Int × Int) × Int × Int × List (Int × Int) × Int × Int) × (Unit × List (List (Int × Int)) × (Int × Int))) ⊕ ((Int × List (Int × Int) × List (Int × Int) × Unit × Int × Unit × Bool × List (Int × Int) × Int × Int) × (Unit × List (List (Int × Int)) × (Int × Int)))) := fun ((n, all, begin, (), i, (), free, t28, t29, t30, t35, t36, t37), ((), out_r, (d_0, d_1))) =>(.test (decide (t37 < t36)) (.test (decide ((0 ≤ t37) ∧ (t37 < (t35.length : Int)))) (.sub (t35[(Int.toNat t37)]?) fun z0 =>(.test free (.sub (F116 ((d_0, d_1), (z0.1, z0.2))) fun z1 =>(qz out_r (.ret (Sum.inl ((n, (all, (begin, ((), (i, ((), ((! z1), (t28, (t29, (t30, (t35, (t36, (w64 (t37 + 1)))))))))))))), ((), (out_r, (d_0, d_1)))))))) (qz out_r (.ret (Sum.inl ((n, (all, (begin, ((), (i, ((), (false, (t28, (t29, (t30, (t35, (t36, (w64 (t37 + 1)))))))))))))), ((), (out_r, (d_0, d_1))))))))) .fail) (qz out_r (.ret (Sum.inr ((n, (all, (begin, ((), (i, ((), (free, (t28, (t29, t30))))))))), ((), (out_r, (d_0, d_1))))))))
def zqo (v) := zav (fun v => (zb5 v).run) v
def zm1 : LSh := ⟨(fun ex => match ex with | .norm => (nz [0, 1, 2, 3, 28, 29, 30]) | .exit i => if i = 0 then [] else [] | .ret => []), [(0, qo1), (1, (.one (.sl (.pair (.int .i64) (.int .i64)) false false))), (2, (.one (.sl (.pair (.int .i64) (.int .i64)) false false))), (3, qo3), (28, (.one (.sl (.pair (.int .i64) (.int .i64)) false false))), (29, qo1), (30, qo1)], [(.rcd 0 [(.rw 1 0)]), (.row 0 (.list true (.pair (.int .i64) (.int .i64))))], [⟨(.exit 0), [], [(.rcd 0 [(.rw 1 0)]), (.row 0 (.list true (.pair (.int .i64) (.int .i64))))]⟩], [(0, 0, (.list true (.pair (.int .i64) (.int .i64))))], []⟩
def zcr : ((Int × List (Int × Int) × List (Int × Int) × Unit × List (Int × Int) × Int × Int) × (Unit × List (List (Int × Int)))) → T (((Int × List (Int × Int) × List (Int × Int) × Unit × List (Int × Int) × Int × Int) × (Unit × List (List (Int × Int)))) ⊕ (Unit × (Unit × List (List (Int × Int))))) := fun ((n, all, begin, (), t28, t29, t30), ((), out_r)) =>(.test (decide (t30 < t29)) (.test (decide ((0 ≤ t30) ∧ (t30 < (t28.length : Int)))) (.sub (t28[(Int.toNat t30)]?) fun z0 =>(qz out_r (.sub (zqo ((n, (all, (begin, ((), (t30, ((), (true, (t28, (t29, (t30, (begin, ((begin.length : Int), (0 : Int))))))))))))), ((), (out_r, (z0.1, z0.2))))) fun z1 =>(.test z1.1.2.2.2.2.2.2.1 (.test (decide (0 ≤ (w64 (z1.1.2.2.2.2.1 + 1)))) (.test (decide (((Int.toNat (w64 (z1.1.2.2.2.2.1 + 1))) ≤ z1.1.2.1.length) ∧ (z1.1.2.1.length ≤ z1.1.2.1.length))) (.test true (.test (decide ((2 * ((0 + z1.1.2.2.1.length) * 17)) ≤ 140737488355328)) (.test (decide (1 ≤ (List.length (List.set (List.replicate 1 ((0 : Int), (0 : Int))) 0 (z1.2.2.2.1, z1.2.2.2.2))))) (.test (decide ((0 + (0 + z1.1.2.2.1.length)) ≤ (List.length ((win (List.replicate 0 ((0 : Int), (0 : Int))) 0 0) ++ z1.1.2.2.1)))) (.test (decide ((2 * (((0 + z1.1.2.2.1.length) + (List.length (win (List.set (List.replicate 1 ((0 : Int), (0 : Int))) 0 (z1.2.2.2.1, z1.2.2.2.2)) 0 1))) * 17)) ≤ 140737488355328)) (.test (decide ((0 + ((0 + z1.1.2.2.1.length) + (List.length (win (List.set (List.replicate 1 ((0 : Int), (0 : Int))) 0 (z1.2.2.2.1, z1.2.2.2.2)) 0 1)))) ≤ (List.length ((win ((win (List.replicate 0 ((0 : Int), (0 : Int))) 0 0) ++ z1.1.2.2.1) 0 (0 + z1.1.2.2.1.length)) ++ (win (List.set (List.replicate 1 ((0 : Int), (0 : Int))) 0 (z1.2.2.2.1, z1.2.2.2.2)) 0 1))))) (qz z1.2.2.1 (.sub (F103 ((z1.1.1, ((win z1.1.2.1 (Int.toNat (w64 (z1.1.2.2.2.2.1 + 1))) (z1.1.2.1.length - (Int.toNat (w64 (z1.1.2.2.2.2.1 + 1))))), ((win ((win ((win (List.replicate 0 ((0 : Int), (0 : Int))) 0 0) ++ z1.1.2.2.1) 0 (0 + z1.1.2.2.1.length)) ++ (win (List.set (List.replicate 1 ((0 : Int), (0 : Int))) 0 (z1.2.2.2.1, z1.2.2.2.2)) 0 1)) 0 ((0 + z1.1.2.2.1.length) + (List.length (win (List.set (List.replicate 1 ((0 : Int), (0 : Int))) 0 (z1.2.2.2.1, z1.2.2.2.2)) 0 1)))), ()))), ((), z1.2.2.1))) fun z2 =>(qz z2.2.2 (.ret (Sum.inl ((z1.1.1, (z1.1.2.1, (z1.1.2.2.1, ((), (z1.1.2.2.2.2.2.2.2.1, (z1.1.2.2.2.2.2.2.2.2.1, (w64 (z1.1.2.2.2.2.2.2.2.2.2 + 1)))))))), ((), z2.2.2))))))) .fail) .fail) .fail) .fail) .fail) .fail) .fail) .fail) (qz z1.2.2.1 (.ret (Sum.inl ((z1.1.1, (z1.1.2.1, (z1.1.2.2.1, ((), (z1.1.2.2.2.2.2.2.2.1, (z1.1.2.2.2.2.2.2.2.2.1, (w64 (z1.1.2.2.2.2.2.2.2.2.2 + 1)))))))), ((), z1.2.2.1))))))))) .fail) (qz out_r (.ret (Sum.inr ((), ((), out_r))))))
def zqn (v) := zav (fun v => (zcr v).run) v
def z5u : List FO := [⟨[], [(.rcd 0 [(.rw 1 0)]), (.row 0 (.list true (.pair (.int .i64) (.int .i64))))]⟩]
def zahv : ((Int × List (Int × Int) × List (Int × Int) × Unit) × Unit) → T (Unit × (Unit × List (List (Int × Int)))) := fun ((n, all, begin, ()), ()) =>(.test ((begin.length : Int) == (w64 (n - 3))) (.test true (.test (decide ((2 * ((0 + begin.length) * 17)) ≤ 140737488355328)) (.test (decide ((0 + (0 + begin.length)) ≤ (List.length ((win (List.replicate 0 ((0 : Int), (0 : Int))) 0 0) ++ begin)))) (.test (decide (1 ≤ (List.length (List.set (List.replicate 1 ([] : List (Int × Int))) 0 (win ((win (List.replicate 0 ((0 : Int), (0 : Int))) 0 0) ++ begin) 0 (0 + begin.length)))))) (.test (decide (¬ (((List.length (win (List.set (List.replicate 1 ([] : List (Int × Int))) 0 (win ((win (List.replicate 0 ((0 : Int), (0 : Int))) 0 0) ++ begin) 0 (0 + begin.length))) 0 1)) = 0) ∧ (0 ≠ 0)))) (.test (decide ((2 * ((0 + (List.length (win (List.set (List.replicate 1 ([] : List (Int × Int))) 0 (win ((win (List.replicate 0 ((0 : Int), (0 : Int))) 0 0) ++ begin) 0 (0 + begin.length))) 0 1))) * 25)) ≤ 140737488355328)) (.test (decide ((0 = 0) ∧ ((0 + (List.length (win (List.set (List.replicate 1 ([] : List (Int × Int))) 0 (win ((win (List.replicate 0 ((0 : Int), (0 : Int))) 0 0) ++ begin) 0 (0 + begin.length))) 0 1))) = (List.length (([] : List (List (Int × Int))) ++ (win (List.set (List.replicate 1 ([] : List (Int × Int))) 0 (win ((win (List.replicate 0 ((0 : Int), (0 : Int))) 0 0) ++ begin) 0 (0 + begin.length))) 0 1)))))) (.ret ((), ((), (([] : List (List (Int × Int))) ++ (win (List.set (List.replicate 1 ([] : List (Int × Int))) 0 (win ((win (List.replicate 0 ((0 : Int), (0 : Int))) 0 0) ++ begin) 0 (0 + begin.length))) 0 1))))) .fail) .fail) .fail) .fail) .fail) .fail) .fail) (.test true (.sub (zqn ((n, (all, (begin, ((), (all, ((all.length : Int), (0 : Int))))))), ((), ([] : List (List (Int × Int)))))) fun z0 =>(qz z0.2.2 (.ret ((), ((), z0.2.2))))) .fail))
def F124 (v) := (zahv v).run
def z8i : TEnv := ((E0.add1 zab1 zxi zxh F116).add1 zi0 zhe zhd F103)
theorem zxk : (z8i).OK := ((E0ok.add1 zag8).add1 za6i)
def zqq : Nat → Option zal := fun id => if id = 7 then some (LSh.told zm2 1 (zb5)) else if id = 3 then some (LSh.told zm1 1 (zcr)) else none
theorem zadl : zan Tryz.prog 1 (zad (zac zgo) [0, 0]) (LSh.told zm2 1 (zb5)) :=
 zak (E := z8i) (zxk) (told := zqq) (l := zm2) (step := zb5) (zab (ls := []) (by kernel_rfl) trivial) (by kernel_rfl) (fun v => by kernel_rfl)
theorem zadk : zan Tryz.prog 1 (zad (zac zgo) [0]) (LSh.told zm1 1 (zcr)) :=
 zak (E := z8i) (zxk) (told := zqq) (l := zm1) (step := zcr) (zab (ls := [zad (zac zgo) [0, 0]]) (by kernel_rfl) ⟨.inr ⟨_, by kernel_rfl, zadl⟩, trivial⟩) (by kernel_rfl) (fun v => by kernel_rfl)
theorem za67 : FOK Tryz.prog zi0 z5v z5u F124 :=
 zao (E := z8i) (zxk) (told := zqq) (fl := []) (c := zac zgo) (s := z5v) (l := z5u) (tree := zahv) z2o (by kernel_rfl) (by kernel_rfl) (by kernel_rfl) (zab (ls := [zad (zac zgo) [0]]) (by kernel_rfl) ⟨.inr ⟨_, by kernel_rfl, zadk⟩, trivial⟩) (fun v => by kernel_rfl)
theorem zahu (n : Int) (all b : List Dg) (i t29 t30 : Int) (t28 : List Dg) (d : Dg) (out : List (List Dg)) (hb : b.length < 1000000) :
  zqo ((n, (all, (b, ((), (i, ((), (true, (t28, (t29, (t30, (b, ((b.length : Int), (0 : Int))))))))))))), ((), (out, d))) = some ((n, (all, (b, ((), (i, ((), (zk1 d b, (t28, (t29, t30))))))))), ((), (out, d))) := by
 obtain ⟨d0, d1⟩ := d
 have key : ∀ m k (f : Bool), k + m = b.length → zqo ((n, (all, (b, ((), (i, ((), (f, (t28, (t29, (t30, (b, ((b.length : Int), (k : Int))))))))))))), ((), (out, (d0, d1)))) = some ((n, (all, (b, ((), (i, ((), ((f && !(b.drop k).any (zbc (d0, d1))), (t28, (t29, t30))))))))), ((), (out, (d0, d1)))) := by
  intro m
  induction m with
  | zero =>
   intro k f hk
   have : k = b.length := by omega
   subst this
   simp only [zqo]
   exact zag (by simp [zb5, T.run])
  | succ m ih =>
   intro k f hk
   have hlt : k < b.length := by omega
   have c0 : (k : Int) < (b.length : Int) := by omega
   have c1 : (0 : Int) ≤ (k : Int) ∧ (k : Int) < (b.length : Int) := by omega
   have w1 : w64 ((k : Int) + 1) = ((k + 1 : Nat) : Int) := by rw [zae (by omega) (by omega)]; omega
   rw [zs3 hlt, List.any_cons]
   have ih := ih (k + 1) (f && !zbc (d0, d1) (gD b k)) (by omega)
   simp only [zqo] at ih ⊢
   have st : (zb5 ((n, (all, (b, ((), (i, ((), (f, (t28, (t29, (t30, (b, ((b.length : Int), (k : Int))))))))))))), ((), (out, (d0, d1))))).run =
     some (.inl ((n, (all, (b, ((), (i, ((), ((f && !zbc (d0, d1) (gD b k)), (t28, (t29, (t30, (b, ((b.length : Int), ((k + 1 : Nat) : Int))))))))))))), ((), (out, (d0, d1))))) := by
    cases f with
    | true => simp only [zb5, T.run, c0, c1, decide_true, if_true, and_self, true_and, qe, zdh hlt, qa, zag7, w1, Bool.true_and]
    | false => simp only [zb5, T.run, c0, c1, decide_true, if_true, and_self, true_and, qe, zdh hlt, qa, w1, Bool.false_and, qj, if_false]
   rw [zah st, ih]
   congr 2
   cases f <;> cases zbc (d0, d1) (gD b k) <;> simp
 have := key b.length 0 true (by omega)
 simpa [zk1] using this
theorem zqp (n : Nat) (t b : List Dg) (hn : 3 ≤ n ∧ n ≤ 9) (ht : t.length ≤ 27) (hb : b.length < 50) :
  ∀ (m i : Nat) (out : List (List Dg)), i + m = t.length → out.length + 2 ^ m ≤ 1000000000 →
  zqn (((n : Int), (t, (b, ((), (t, ((t.length : Int), (i : Int))))))), ((), out)) = some ((), ((), out ++ goL (n - 3) (t.drop i) b))
 | 0, i, out, hi, ho => by
  have : i = t.length := by omega
  subst this
  rw [List.drop_length]
  simp only [zqn, goL, kq]
  exact zag (by simp [zcr, T.run])
 | m + 1, i, out, hi, ho => by
  have hlt : i < t.length := by omega
  have c0 : (i : Int) < (t.length : Int) := by omega
  have c2 : (0 : Int) ≤ (i : Int) ∧ (i : Int) < (t.length : Int) := by omega
  have w1 : w64 ((i : Int) + 1) = ((i + 1 : Nat) : Int) := by rw [zae (by omega) (by omega)]; omega
  have hp : 2 ^ (m + 1) = 2 ^ m + 2 ^ m := by rw [Nat.pow_succ]; omega
  have hp0 : 1 ≤ 2 ^ m := Nat.one_le_two_pow
  have hm : m = t.length - (i + 1) := by omega
  have hfree := zahu (n : Int) t b (i : Int) (t.length : Int) (i : Int) t (gD t i) out (by omega)
  rw [zs3 hlt, zjj]
  cases hf : zk1 (gD t i) b with
  | false =>
   have ih := zqp n t b hn ht hb m (i + 1) out (by omega) (by omega)
   rw [hf] at hfree
   simp only [qj, if_false, qw]
   simp only [zqn] at ih ⊢
   rw [← ih]
   refine zah ?_
   simp only [zcr, T.run, c0, c2, decide_true, if_true, true_and, and_self, qe, zdh hlt, qa, hfree, qj, if_false, w1]
  | true =>
   have hll := zabt (t := t) (b := b ++ [gD t i]) (i := i) (k := n - 3) hm
   have hrec : F103 (((n : Int), (t.drop (i + 1), (b ++ [gD t i], ()))), ((), out)) = some ((), ((), out ++ zen (n - 3) (t.drop (i + 1)) (b ++ [gD t i]))) :=
    zaf6 n hn zmb (t.drop (i + 1)) (b ++ [gD t i]) out (by rw [kb]; omega) (by rw [kb]; unfold zmb; omega) (by rw [kb, ql, qk, qq]; omega) (by rw [kb, ← hm]; omega)
   have ih := zqp n t b hn ht hb m (i + 1) (out ++ zen (n - 3) (t.drop (i + 1)) (b ++ [gD t i])) (by omega) (by rw [ql]; omega)
   rw [hf] at hfree
   simp only [if_true]
   rw [← List.append_assoc]
   simp only [zqn] at ih ⊢
   rw [← ih]
   refine zah ?_
   have c1 : (0 : Int) ≤ ((i + 1 : Nat) : Int) := by omega
   have c3 : i + 1 ≤ t.length ∧ t.length ≤ t.length := by omega
   have c4 : 2 * ((0 + b.length) * 17) ≤ 140737488355328 := by omega
   have c5 : 2 * ((0 + b.length + 1) * 17) ≤ 140737488355328 := by omega
   have hw0 : win ([] : List Dg) 0 0 = [] := rfl
   have hw1 : win b 0 (0 + b.length) = b := by rw [Nat.zero_add]; exact zap _
   have hl1 : (b ++ [gD t i]).length = 0 + b.length + 1 := by simp
   have hw2 : win (b ++ [gD t i]) 0 (0 + b.length + 1) = b ++ [gD t i] := by rw [← hl1]; exact zap _
   have hw3 : win t (i + 1) (t.length - (i + 1)) = t.drop (i + 1) := by unfold win; rw [List.take_of_length_le (by rw [kb]; omega)]
   simp only [zcr, T.run, c0, c1, c2, c3, c4, c5, decide_true, if_true, true_and, and_self, qe, zdh hlt, qa, hfree, w1, List.replicate_zero, hw0, qw, hw1, zc9, qk, qq, hw2, hw3, hrec, qy, kj, qi, ql]
   simp
theorem za66 (n : Nat) (hn : 3 ≤ n ∧ n ≤ 9) (t : List Dg) (ht : t.length ≤ 27) : F124 (((n : Int), (t, (([] : List Dg), ()))), ()) = some ((), ((), zen (n - 3) t [])) := by
 have w0 : w64 ((n : Int) - 3) = ((n - 3 : Nat) : Int) := by rw [zae (by omega) (by omega)]; omega
 simp only [F124, zahv, T.run, w0]
 by_cases hl : n = 3
 ·subst hl
  have hw0 : win ([] : List Dg) 0 0 = [] := rfl
  have hone : win (List.set (List.replicate 1 ([] : List Dg)) 0 ([] : List Dg)) 0 1 = [[]] := rfl
  have hw9 : win ([[]] : List (List Dg)) 0 1 = [[]] := rfl
  simp [zen, hw0, hw9]
 ·have e : ((([] : List Dg).length : Int) == ((n - 3 : Nat) : Int)) = false := by simp; omega
  unfold zen
  have hne : ¬ ([] : List Dg).length = n - 3 := by simp; omega
  rw [if_neg hne]
  have hp : 2 ^ t.length ≤ 2 ^ 27 := Nat.pow_le_pow_right (by omega) ht
  have h27 : (2 : Nat) ^ 27 = 134217728 := by decide
  have h3 := zqp n t [] hn ht (by simp) t.length 0 [] (by omega) (by simp only [qq]; omega)
  rw [List.drop_zero, ka, qw] at h3
  simp only [e, qj, if_false, decide_true, if_true, h3, qa, true_and]
def z6b : FSh := ⟨[(.one (.si .i64))], []⟩
def znc : LSh := ⟨(fun ex => match ex with | .norm => (nz [0, 3, 4, 5]) | .exit i => if i = 2 then (nz [0, 3, 4]) else if i = 1 then (nz [0, 3, 4]) else if i = 0 then (nz [0, 3]) else [] | .ret => (nz [2])), [(0, qo1), (3, qo4), (4, qo1), (5, qo1)], [(.row 0 (.pair (.int .i64) (.int .i64)))], [⟨(.exit 2), [(0, qo1), (3, qo4), (4, qo1)], [(.row 0 (.pair (.int .i64) (.int .i64)))]⟩], [], []⟩
def zbi : ((Int × Unit × Int × Int) × List (Int × Int)) → T (((Int × Unit × Int × Int) × List (Int × Int)) ⊕ ((Int × Unit × Int) × List (Int × Int))) := fun ((n, (), a, b), all) =>(.test (decide (b < n)) (.sub (F91 (n, (a, b))) fun z0 =>(.test z0 (.test (decide (1 ≤ (List.length (List.set (List.replicate 1 ((0 : Int), (0 : Int))) 0 (a, b))))) (.test (decide ((0 + all.length) ≤ all.length)) (.test (decide ((2 * ((all.length + (List.length (win (List.set (List.replicate 1 ((0 : Int), (0 : Int))) 0 (a, b)) 0 1))) * 17)) ≤ 140737488355328)) (.test (decide ((0 = 0) ∧ ((all.length + (List.length (win (List.set (List.replicate 1 ((0 : Int), (0 : Int))) 0 (a, b)) 0 1))) = (List.length ((win all 0 all.length) ++ (win (List.set (List.replicate 1 ((0 : Int), (0 : Int))) 0 (a, b)) 0 1)))))) (.ret (Sum.inl ((n, ((), (a, (w64 (b + 1))))), ((win all 0 all.length) ++ (win (List.set (List.replicate 1 ((0 : Int), (0 : Int))) 0 (a, b)) 0 1))))) .fail) .fail) .fail) .fail) (qz all (.ret (Sum.inl ((n, ((), (a, (w64 (b + 1))))), all)))))) (qz all (.ret (Sum.inr ((n, ((), a)), all)))))
def zke (v) := zav (fun v => (zbi v).run) v
def znb : LSh := ⟨(fun ex => match ex with | .norm => (nz [0, 3, 4]) | .exit i => if i = 0 then (nz [0, 3]) else [] | .ret => (nz [2])), [(0, qo1), (3, qo4), (4, qo1)], [(.row 0 (.pair (.int .i64) (.int .i64)))], [⟨(.exit 0), [(0, qo1), (3, qo4)], [(.row 0 (.pair (.int .i64) (.int .i64)))]⟩], [], []⟩
def zd9 : ((Int × Unit × Int) × List (Int × Int)) → T (((Int × Unit × Int) × List (Int × Int)) ⊕ ((Int × Unit) × List (Int × Int))) := fun ((n, (), a), all) =>(.test (decide (a < n)) (qz all (.sub (zke ((n, ((), (a, (w64 (a + 2))))), all)) fun z0 =>(qz z0.2 (.ret (Sum.inl ((z0.1.1, ((), (w64 (z0.1.2.2 + 1)))), z0.2)))))) (qz all (.ret (Sum.inr ((n, ()), all)))))
def zxu (v) := zav (fun v => (zd9 v).run) v
def z6a : List FO := [⟨[(.one (.rw 0 0))], [(.row 0 (.list true (.pair (.int .i64) (.int .i64))))]⟩]
def zaio : Int → T (Unit × List (List (Int × Int))) := fun n =>(.test true (.sub (zxu ((n, ((), (0 : Int))), ([] : List (Int × Int)))) fun z0 =>(.test (decide ((0 + z0.2.length) ≤ z0.2.length)) (.sub (F124 ((z0.1.1, ((win z0.2 0 z0.2.length), (([] : List (Int × Int)), ()))), ())) fun z1 =>(qz z1.2.2 (.ret ((), z1.2.2)))) .fail)) .fail)
def F137 (v) := (zaio v).run
def z8q : TEnv := ((E0.add1 zbec zanp zano F91).add1 zi0 z5v z5u F124)
theorem zxt : (z8q).OK := ((E0ok.add1 zbik).add1 za67)
def zqu : Nat → Option zal := fun id => if id = 6 then some (LSh.told znc 0 (zbi)) else if id = 3 then some (LSh.told znb 0 (zd9)) else none
theorem zadu : zan Tryz.prog 0 (zad (zac zn1) [0, 0]) (LSh.told znc 0 (zbi)) :=
 zak (E := z8q) (zxt) (told := zqu) (l := znc) (step := zbi) (zab (ls := []) (by kernel_rfl) trivial) (by kernel_rfl) (fun v => by kernel_rfl)
theorem zadt : zan Tryz.prog 0 (zad (zac zn1) [0]) (LSh.told znb 0 (zd9)) :=
 zak (E := z8q) (zxt) (told := zqu) (l := znb) (step := zd9) (zab (ls := [zad (zac zn1) [0, 0]]) (by kernel_rfl) ⟨.inr ⟨_, by kernel_rfl, zadu⟩, trivial⟩) (by kernel_rfl) (fun v => by kernel_rfl)
theorem za7i : FOK Tryz.prog zas6 z6b z6a F137 :=
 zao (E := z8q) (zxt) (told := zqu) (fl := []) (c := zac zn1) (s := z6b) (l := z6a) (tree := zaio) zarh (by kernel_rfl) (by kernel_rfl) (by kernel_rfl) (zab (ls := [zad (zac zn1) [0]]) (by kernel_rfl) ⟨.inr ⟨_, by kernel_rfl, zadt⟩, trivial⟩) (fun v => by kernel_rfl)
theorem zxv (n a : Nat) (hn : 3 ≤ n ∧ n ≤ 9) : ∀ (m b : Nat) (out : List Dg), b + m = n → out.length + m ≤ 1000000 →
  zke (((n : Int), ((), ((a : Int), (b : Int)))), out) = some (((n : Int), ((), (a : Int))), out ++ rowD n a b)
 | 0, b, out, hb, ho => by
  have : b = n := by omega
  subst this
  rw [zzz, kq]
  simp only [zke]
  exact zag (by simp [zbi, T.run])
 | m + 1, b, out, hb, ho => by
  have c0 : (b : Int) < (n : Int) := by omega
  have w1 : w64 ((b : Int) + 1) = ((b + 1 : Nat) : Int) := by rw [zae (by omega) (by omega)]; omega
  have c1 : 2 * ((out.length + 1) * 17) ≤ 140737488355328 := by omega
  have hd := zbij (n : Int) ((a : Int), (b : Int)) (by omega) (by omega)
  rw [zt4 (by omega : b < n)]
  cases hg : inDg n ((a : Int), (b : Int)) with
  | true =>
   have ih := zxv n a hn m (b + 1) (out ++ [((a : Int), (b : Int))]) (by omega) (by simp; omega)
   simp only [zke] at ih ⊢
   rw [hg] at hd
   have st : (zbi (((n : Int), ((), ((a : Int), (b : Int)))), out)).run = some (.inl (((n : Int), ((), ((a : Int), ((b + 1 : Nat) : Int)))), out ++ [((a : Int), (b : Int))])) := by
    simp only [zbi, T.run, c0, hd, decide_true, if_true, qa, zc9, zap, qk, qq, Nat.zero_add, c1, w1, qy, kj, qi, ql, true_and]
   rw [zah st, ih]
   simp
  | false =>
   have ih := zxv n a hn m (b + 1) out (by omega) (by omega)
   simp only [zke] at ih ⊢
   rw [hg] at hd
   have st : (zbi (((n : Int), ((), ((a : Int), (b : Int)))), out)).run = some (.inl (((n : Int), ((), ((a : Int), ((b + 1 : Nat) : Int)))), out)) := by
    simp only [zbi, T.run, c0, hd, decide_true, if_true, qa, qj, if_false, w1, true_and]
   rw [zah st, ih]
   simp
theorem z0p (n : Nat) (hn : 3 ≤ n ∧ n ≤ 9) : ∀ (m a : Nat) (out : List Dg), a + m = n → out.length ≤ 1000 * a →
  zxu (((n : Int), ((), (a : Int))), out) = some (((n : Int), ()), out ++ zt5 n a)
 | 0, a, out, ha, ho => by
  have : a = n := by omega
  subst this
  rw [z4a, kq]
  simp only [zxu]
  exact zag (by simp [zd9, T.run])
 | m + 1, a, out, ha, ho => by
  have c0 : (a : Int) < (n : Int) := by omega
  have w1 : w64 ((a : Int) + 1) = ((a + 1 : Nat) : Int) := by rw [zae (by omega) (by omega)]; omega
  have w2 : w64 ((a : Int) + 2) = ((a + 2 : Nat) : Int) := by rw [zae (by omega) (by omega)]; omega
  have hr : zke (((n : Int), ((), ((a : Int), ((a + 2 : Nat) : Int)))), out) = some (((n : Int), ((), (a : Int))), out ++ rowD n a 0) := by
   by_cases h : a + 2 ≤ n
   ·have hr := zxv n a hn (n - (a + 2)) (a + 2) out (by omega) (by omega)
    rwa [← zju n a (a + 2) (by omega)] at hr
   ·rw [zju n a (a + 1) (by omega), show a + 1 = n by omega, zzz, kq]
    simp only [zke]
    have : ¬ (((a + 2 : Nat) : Int) < (n : Int)) := by omega
    exact zag (by simp only [zbi, T.run, this]; simp)
  have hl := zaci n a 0
  have ih := z0p n hn m (a + 1) (out ++ rowD n a 0) (by omega) (by rw [ql]; omega)
  rw [zwp (by omega : a < n), ← List.append_assoc]
  simp only [zxu] at ih ⊢
  rw [← ih]
  refine zah ?_
  simp only [zd9, T.run, c0, decide_true, if_true, true_and, w1, w2, hr, qa]
theorem za7h (n : Nat) (hn : 3 ≤ n ∧ n ≤ 9) : F137 (n : Int) = some ((), allT n) := by
 have h := z0p n hn n 0 [] (by omega) (by simp)
 have e : zt5 n 0 = dgL n := by unfold zt5; rw [List.drop_zero, zaax]
 rw [e, qw, ka] at h
 simp only [F137, zaio, T.run, decide_true, if_true, h, qa, Nat.zero_add, qi, zap, za66 n hn (dgL n) (z7e n hn.2)]
 rfl
def zant : FSh := ⟨[(.one (.si .i64)), (.one (.sl (.pair (.int .i64) (.int .i64)) false false))], []⟩
def zrs : LSh := ⟨(fun ex => match ex with | .norm => (nz [1, 5, 12, 13]) | .exit i => if i = 0 then (nz [1, 5]) else [] | .ret => (nz [4])), [(1, (.one (.sl (.pair (.int .i64) (.int .i64)) false false))), (5, qo4), (12, qo1), (13, qo1)], [qr1], [⟨(.exit 0), [(1, (.one (.sl (.pair (.int .i64) (.int .i64)) false false))), (5, qo4)], [qr1]⟩], [], []⟩
def ze8 : ((List (Int × Int) × Unit × Int × Int) × List Int) → T (((List (Int × Int) × Unit × Int × Int) × List Int) ⊕ ((List (Int × Int) × Unit) × List Int)) := fun ((ds, (), t12, t13), out) =>(.test (decide (t13 < t12)) (.test (decide ((0 ≤ t13) ∧ (t13 < (out.length : Int)))) (.sub (out[(0 + (Int.toNat t13))]?) fun z0 =>(.test (decide ((0 = 0) ∧ (out.length = (List.length (List.set out (0 + (Int.toNat t13)) (1 : Int)))))) (.ret (Sum.inl ((ds, ((), (t12, (w64 (t13 + 1))))), (List.set out (0 + (Int.toNat t13)) (1 : Int))))) .fail)) .fail) (qz out (.ret (Sum.inr ((ds, ()), out)))))
def zaad (v) := zav (fun v => (ze8 v).run) v
def zrt : LSh := ⟨(fun ex => match ex with | .norm => (nz [5, 20, 21, 22]) | .exit i => if i = 2 then (nz [5]) else [] | .ret => (nz [4])), [(5, qo4), (20, (.one (.sl (.pair (.int .i64) (.int .i64)) false false))), (21, qo1), (22, qo1)], [qr1], [⟨(.exit 2), [(5, qo4)], [qr1]⟩], [], []⟩
def zd2 : ((Unit × List (Int × Int) × Int × Int) × List Int) → T (((Unit × List (Int × Int) × Int × Int) × List Int) ⊕ (Unit × List Int)) := fun (((), t20, t21, t22), out) =>(.test (decide (t22 < t21)) (.test (decide ((0 ≤ t22) ∧ (t22 < (t20.length : Int)))) (.sub (t20[(Int.toNat t22)]?) fun z0 =>(.test (decide ((0 ≤ z0.1) ∧ (z0.1 < (out.length : Int)))) (.sub (out[(0 + (Int.toNat z0.1))]?) fun z1 =>(.test (decide ((0 ≤ z0.1) ∧ (z0.1 < (out.length : Int)))) (.sub (out[(0 + (Int.toNat z0.1))]?) fun z2 =>(.test (decide ((0 ≤ z0.2) ∧ (z0.2 < (out.length : Int)))) (.sub ((List.set out (0 + (Int.toNat z0.1)) (w64 (z1 + 1)))[(0 + (Int.toNat z0.2))]?) fun z3 =>(.test (decide ((0 ≤ z0.2) ∧ (z0.2 < (out.length : Int)))) (.sub ((List.set out (0 + (Int.toNat z0.1)) (w64 (z1 + 1)))[(0 + (Int.toNat z0.2))]?) fun z4 =>(.test (decide ((0 = 0) ∧ (out.length = (List.length (List.set (List.set out (0 + (Int.toNat z0.1)) (w64 (z1 + 1))) (0 + (Int.toNat z0.2)) (w64 (z3 + 1))))))) (.ret (Sum.inl (((), (t20, (t21, (w64 (t22 + 1))))), (List.set (List.set out (0 + (Int.toNat z0.1)) (w64 (z1 + 1))) (0 + (Int.toNat z0.2)) (w64 (z3 + 1)))))) .fail)) .fail)) .fail)) .fail)) .fail)) .fail) (qz out (.ret (Sum.inr ((), out)))))
def za39 (v) := zav (fun v => (zd2 v).run) v
def zans : List FO := [⟨[(.one (.rw 0 0))], [qr1]⟩]
def zbbq : (Int × List (Int × Int)) → T (Unit × List Int) := fun (n, ds) =>(.test (decide ((0 ≤ n) ∧ ((n ≤ n) ∧ (((Int.toNat n) * 9) ≤ 140737488355328)))) (.test (decide ((0 = 0) ∧ ((Int.toNat n) = (List.length (List.replicate (Int.toNat n) (0 : Int)))))) (.sub (zaad ((ds, ((), (((Int.toNat n) : Int), (0 : Int)))), (List.replicate (Int.toNat n) (0 : Int)))) fun z0 =>(qz z0.2 (.sub (za39 (((), (z0.1.1, ((z0.1.1.length : Int), (0 : Int)))), z0.2)) fun z1 =>(qz z1.2 (.ret ((), z1.2)))))) .fail) .fail)
def F92 (v) := (zbbq v).run
def zaxs : TEnv := E0
theorem z60 : (zaxs).OK := E0ok
def zyc : Nat → Option zal := fun id => if id = 3 then some (LSh.told zrs 0 (ze8)) else if id = 8 then some (LSh.told zrt 0 (zd2)) else none
theorem zanq : zan Tryz.prog 0 (zad (zac zv3) [0]) (LSh.told zrs 0 (ze8)) :=
 zak (E := zaxs) (z60) (told := zyc) (l := zrs) (step := ze8) (zab (ls := []) (by kernel_rfl) trivial) (by kernel_rfl) (fun v => by kernel_rfl)
theorem zanr : zan Tryz.prog 0 (zad (zac zv3) [1]) (LSh.told zrt 0 (zd2)) :=
 zak (E := zaxs) (z60) (told := zyc) (l := zrt) (step := zd2) (zab (ls := []) (by kernel_rfl) trivial) (by kernel_rfl) (fun v => by kernel_rfl)
theorem zbim : FOK Tryz.prog zbed zant zans F92 :=
 zao (E := zaxs) (z60) (told := zyc) (fl := []) (c := zac zv3) (s := zant) (l := zans) (tree := zbbq) za0k (by kernel_rfl) (by kernel_rfl) (by kernel_rfl) (zab (ls := [zad (zac zv3) [0], zad (zac zv3) [1]]) (by kernel_rfl) ⟨.inr ⟨_, by kernel_rfl, zanq⟩, ⟨.inr ⟨_, by kernel_rfl, zanr⟩, trivial⟩⟩) (fun v => by kernel_rfl)
theorem zbil (n : Nat) (ds : List Dg) (hn : 1 ≤ n ∧ n ≤ 1000000) (hl : ds.length < 1000000) (h : ∀ d ∈ ds, 0 ≤ d.1 ∧ d.1 < d.2 ∧ d.2 < (n : Int)) : F92 ((n : Int), ds) = some ((), quid n ds) := by
 have hones : ∀ m k, k + m = n → zaad ((ds, ((), ((n : Int), (k : Int)))), List.replicate k 1 ++ List.replicate (n - k) 0) = some ((ds, ()), List.replicate n 1) := by
  intro m
  induction m with
  | zero =>
   intro k hk
   have : k = n := by omega
   subst this
   rw [Nat.sub_self, List.replicate_zero, kq]
   simp only [zaad]
   exact zag (by simp [ze8, T.run])
  | succ m ih =>
   intro k hk
   have ih := ih (k + 1) (by omega)
   simp only [zaad] at ih ⊢
   rw [← ih]
   refine zah ?_
   have hlen : (List.replicate k (1 : Int) ++ List.replicate (n - k) 0).length = n := by simp; omega
   have c0 : (k : Int) < (n : Int) := by omega
   have c1 : (0 : Int) ≤ (k : Int) ∧ (k : Int) < (n : Int) := by omega
   have w1 : w64 ((k : Int) + 1) = ((k + 1 : Nat) : Int) := by rw [zae (by omega) (by omega)]; omega
   have hs : (List.replicate k (1 : Int) ++ List.replicate (n - k) 0).set k 1 = List.replicate (k + 1) 1 ++ List.replicate (n - (k + 1)) 0 := by
    rw [List.set_append_right _ _ (by simp), kj, Nat.sub_self, show n - k = (n - (k + 1)) + 1 by omega, List.replicate_succ, List.set_cons_zero, List.replicate_succ', List.append_assoc]
    rfl
   have g0 : ∃ x, (List.replicate k (1 : Int) ++ List.replicate (n - k) 0)[k]? = some x := ⟨_, qb (by rw [hlen]; omega)⟩
   obtain ⟨x, g0⟩ := g0
   simp only [ze8, T.run, hlen, c0, c1, decide_true, if_true, and_self, qe, Nat.zero_add, g0, qa, hs, w1, qy, true_and]
   have hlen2 : n = (List.replicate (k + 1) (1 : Int) ++ List.replicate (n - (k + 1)) 0).length := by simp; omega
   rw [← hlen2]
   simp
 have hl' := zbm (step := fun v => (zd2 v).run) (xs := ds) (fun k (s : List Int) => s.length = n ∧ ∀ p, p < n → 0 ≤ s.getD p 0 ∧ s.getD p 0 ≤ k + 1) (fun k s => (((), (ds, ((ds.length : Int), (k : Int)))), s)) znp (fun s => ((), s))
  (fun k s d hP hd => by
   obtain ⟨hs, hb⟩ := hP
   have hlt := zai hd
   obtain ⟨q1, q2, q3⟩ := h d (qp hd)
   refine ⟨?_, by rw [zil, hs], fun p hp => ?_⟩
   ·have c0 : (k : Int) < (ds.length : Int) := by omega
    have c1 : (0 : Int) ≤ (k : Int) ∧ (k : Int) < (ds.length : Int) := by omega
    have w1 : w64 ((k : Int) + 1) = ((k + 1 : Nat) : Int) := by rw [zae (by omega) (by omega)]; omega
    have c2 : 0 ≤ d.1 ∧ d.1 < (s.length : Int) := by omega
    have c3 : 0 ≤ d.2 ∧ d.2 < (s.length : Int) := by omega
    have b1 := hb d.1.toNat (by omega)
    have b2 := hb d.2.toNat (by omega)
    have g1 : s[d.1.toNat]? = some (s.getD d.1.toNat 0) := by rw [qg, qb (by omega)]; rfl
    have g2 : s[d.2.toNat]? = some (s.getD d.2.toNat 0) := by rw [qg, qb (by omega)]; rfl
    have w2 : w64 (s.getD d.1.toNat 0 + 1) = s.getD d.1.toNat 0 + 1 := zae (by omega) (by omega)
    have w3 : w64 (s.getD d.2.toNat 0 + 1) = s.getD d.2.toNat 0 + 1 := zae (by omega) (by omega)
    have g3 : (s.set d.1.toNat (s.getD d.1.toNat 0 + 1))[d.2.toNat]? = some (s.getD d.2.toNat 0) := by rw [kh (by omega)]; exact g2
    simp only [zd2, T.run, c0, c1, c2, c3, decide_true, if_true, and_self, qe, hd, qa, Nat.zero_add, g1, w2, g3, w3, w1]
    simp [znp]
   ·rw [zsn q1 q2 (by omega) (by omega)]
    have := hb p hp
    have : 0 ≤ cntD d p ∧ cntD d p ≤ 1 := by unfold cntD; split <;> split <;> omega
    omega)
  (fun s hs => by simp [zd2, T.run])
  (List.replicate n 1) ⟨by simp, fun p hp => by rw [qg, List.getElem?_replicate, if_pos hp]; simp⟩
 have hq : ds.foldl znp (List.replicate n 1) = quid n ds := by
  obtain ⟨f1, f2⟩ := zso n ds (List.replicate n 1) (by simp) h
  refine List.ext_getElem (by rw [f1]; simp [quid]) fun p hp _ => ?_
  have := f2 p (by omega)
  rw [qg, qb hp, qg, List.getElem?_replicate, if_pos (by omega)] at this
  simp only [Option.getD_some] at this
  rw [this]
  simp [quid]
 have h0 := hones n 0 (by omega)
 rw [List.replicate_zero, qw, Nat.sub_zero] at h0
 simp only [ka] at hl' h0
 have c0 : (0 : Int) ≤ (n : Int) ∧ (n : Int) ≤ (n : Int) ∧ n * 9 ≤ 140737488355328 := by omega
 simp only [F92, zbbq, T.run, qe, c0, and_self, decide_true, if_true, kj, true_and, h0, qa, za39]
 rw [hl'.1, hq]
 simp
def zamh : FSh := ⟨[(.one (.sl (.int .i64) false false)), (.one (.sl (.int .i64) false false))], []⟩
def zrh : LSh := ⟨(fun ex => match ex with | .norm => (nz [0, 1, 7, 8]) | .exit i => if i = 0 then [] else [] | .ret => (nz [4])), [(0, qo5), (1, qo5), (7, qo1), (8, qo1)], [], [⟨.ret, [(4, qo2)], []⟩, ⟨(.exit 0), [], []⟩], [], []⟩
def zdw : (List Int × List Int × Int × Int) → T ((List Int × List Int × Int × Int) ⊕ (Bool ⊕ Unit)) := fun (a, b, t7, t8) =>(.test (decide (t8 < t7)) (.test (decide ((0 ≤ t8) ∧ (t8 < (a.length : Int)))) (.sub (a[(Int.toNat t8)]?) fun z0 =>(.test (decide ((0 ≤ t8) ∧ (t8 < (b.length : Int)))) (.sub (b[(Int.toNat t8)]?) fun z1 =>(.test (z0 != z1) (.test (decide ((0 ≤ t8) ∧ (t8 < (a.length : Int)))) (.sub (a[(Int.toNat t8)]?) fun z2 =>(.test (decide ((0 ≤ t8) ∧ (t8 < (b.length : Int)))) (.sub (b[(Int.toNat t8)]?) fun z3 =>(.ret (Sum.inr (Sum.inl (decide (z2 < z3)))))) .fail)) .fail) (.ret (Sum.inl (a, (b, (t7, (w64 (t8 + 1))))))))) .fail)) .fail) (.ret (Sum.inr (Sum.inr ()))))
def z9p (v) := zav (fun v => (zdw v).run) v
def zamg : List FO := [⟨[(.one .sb)], []⟩]
def zbai : (List Int × List Int) → T Bool := fun (a, b) =>(.sub (z9p (a, (b, ((a.length : Int), (0 : Int))))) fun z0 =>(.test (Sum.isLeft z0) (.sub (Sum.getLeft? z0) fun z1 =>(.ret z1)) (.sub (Sum.getRight? z0) fun z2 =>(.ret false))))
def F72 (v) := (zbai v).run
def zbah : TEnv := E0
theorem zame : (zbah).OK := E0ok
def z9q : Nat → Option zal := fun id => if id = 2 then some (LSh.told zrh 0 (zdw)) else none
theorem zamf : zan Tryz.prog 0 (zad (zac zabh) [0]) (LSh.told zrh 0 (zdw)) :=
 zak (E := zbah) (zame) (told := z9q) (l := zrh) (step := zdw) (zab (ls := []) (by kernel_rfl) trivial) (by kernel_rfl) (fun v => by kernel_rfl)
theorem zbhn : FOK Tryz.prog zbd4 zamh zamg F72 :=
 zao (E := zbah) (zame) (told := z9q) (fl := []) (c := zac zabh) (s := zamh) (l := zamg) (tree := zbai) zaz0 (by kernel_rfl) (by kernel_rfl) (by kernel_rfl) (zab (ls := [zad (zac zabh) [0]]) (by kernel_rfl) ⟨.inr ⟨_, by kernel_rfl, zamf⟩, trivial⟩) (fun v => by kernel_rfl)
theorem zbhm (a b : List Int) (h : a.length = b.length) (hl : a.length < 1000000) : F72 (a, b) = some (ltL a b) := by
 have key : ∀ m k, k + m = a.length → z9p (a, (b, ((a.length : Int), (k : Int)))) = some (if ltL (a.drop k) (b.drop k) then .inl true else match (List.range a.length).drop k |>.find? (fun p => a.getD p 0 != b.getD p 0) with | some _ => .inl false | none => .inr ()) := by
  intro m
  induction m with
  | zero =>
   intro k hk
   have : k = a.length := by omega
   subst this
   rw [List.drop_length, h, List.drop_length]
   simp only [z9p]
   refine zag ?_
   rw [ke (by simp)]
   simp [zdw, T.run, ltL]
  | succ m ih =>
   intro k hk
   have hlt : k < a.length := by omega
   have ih := ih (k + 1) (by omega)
   have c0 : (k : Int) < (a.length : Int) := by omega
   have c1 : (0 : Int) ≤ (k : Int) ∧ (k : Int) < (a.length : Int) := by omega
   have c2 : (0 : Int) ≤ (k : Int) ∧ (k : Int) < (b.length : Int) := by omega
   have w1 : w64 ((k : Int) + 1) = ((k + 1 : Nat) : Int) := by rw [zae (by omega) (by omega)]; omega
   have g1 := za8 hlt
   have g2 := za8 (show k < b.length by omega)
   have hd := za00 h hlt
   rw [qm (l := List.range a.length) (i := k) (by simpa using hlt), List.find?_cons, List.getElem_range]
   simp only [z9p] at ih ⊢
   by_cases he : a.getD k 0 = b.getD k 0
   ·have e2 : (a.getD k 0 != b.getD k 0) = false := by simp only [he]; simp
    rw [if_neg (fun hne => hne he)] at hd
    rw [hd, e2]
    simp only []
    rw [← ih]
    refine zah ?_
    simp only [zdw, T.run, c0, c1, c2, decide_true, if_true, and_self, qe, g1, g2, qa, e2, qj, if_false, w1]
   ·have e2 : (a.getD k 0 != b.getD k 0) = true := by rw [bne_iff_ne]; exact he
    rw [if_pos he] at hd
    rw [hd, e2]
    simp only []
    refine zag ?_
    simp only [zdw, T.run, c0, c1, c2, decide_true, if_true, and_self, qe, g1, g2, qa, e2]
    by_cases hlt2 : a.getD k 0 < b.getD k 0 <;> simp only [hlt2, decide_true, decide_false, if_true, qj, if_false]
 have h0 := key a.length 0 (by omega)
 simp only [ka, List.drop_zero] at h0
 simp only [F72, zbai, T.run, h0, qa]
 cases ltL a b with
 | true => simp
 | false =>
  simp only [qj, if_false]
  cases (List.range a.length).find? (fun p => a.getD p 0 != b.getD p 0) <;> simp
def zaml : FSh := ⟨[(.one (.si .i64))], []⟩
def zrj : LSh := ⟨(fun ex => match ex with | .norm => (nz [0, 3, 6, 7, 10, 11, 12]) | .exit i => if i = 2 then (nz [0, 3, 6, 7, 10, 11, 12]) else if i = 1 then (nz [0, 3, 10, 11, 12]) else if i = 0 then (nz [3]) else [] | .ret => (nz [2])), [(0, qo1), (3, qo4), (6, qo9), (7, qo1), (10, qo8), (11, qo1), (12, qo1)], [qr2, qr1, (.row 0 (.list true (.pair (.int .i64) (.int .i64))))], [⟨(.exit 2), [(0, qo1), (3, qo4), (6, qo9), (7, qo1), (10, qo8), (11, qo1), (12, qo1)], [qr2, qr1, (.row 0 (.list true (.pair (.int .i64) (.int .i64))))]⟩], [], []⟩
def zdy : ((Int × Unit × Unit × Int × Unit × Int × Int) × (List (List Int) × List Int × List (List (Int × Int)))) → T (((Int × Unit × Unit × Int × Unit × Int × Int) × (List (List Int) × List Int × List (List (Int × Int)))) ⊕ ((Int × Unit × Unit × Int × Unit × Int × Int) × (List (List Int) × List Int × List (List (Int × Int))))) := fun ((n, (), (), k, (), t11, t12), (out, q, t10)) =>(.test (decide (k > 0)) (.test (decide ((0 ≤ (w64 (k - 1))) ∧ ((w64 (k - 1)) < (out.length : Int)))) (.sub (out[(0 + (Int.toNat (w64 (k - 1))))]?) fun z0 =>(.test (decide ((0 + q.length) ≤ q.length)) (.sub (F72 ((win q 0 q.length), z0)) fun z1 =>(.test z1 (qz out (qz q (qz t10 (.ret (Sum.inl ((n, ((), ((), ((w64 (k - 1)), ((), (t11, t12)))))), (out, (q, t10)))))))) (qz out (qz q (qz t10 (.ret (Sum.inr ((n, ((), ((), (k, ((), (t11, t12)))))), (out, (q, t10)))))))))) .fail)) .fail) (qz out (qz q (qz t10 (.ret (Sum.inr ((n, ((), ((), (k, ((), (t11, t12)))))), (out, (q, t10)))))))))
def z06 (v) := zav (fun v => (zdy v).run) v
def zri : LSh := ⟨(fun ex => match ex with | .norm => (nz [0, 3, 10, 11, 12]) | .exit i => if i = 0 then (nz [3]) else [] | .ret => (nz [2])), [(0, qo1), (3, qo4), (10, qo9), (11, qo1), (12, qo1)], [qr2, (.row 0 (.list true (.pair (.int .i64) (.int .i64))))], [⟨(.exit 0), [(3, qo4)], [qr2]⟩], [], []⟩
def zdx : ((Int × Unit × Unit × Int × Int) × (List (List Int) × List (List (Int × Int)))) → T (((Int × Unit × Unit × Int × Int) × (List (List Int) × List (List (Int × Int)))) ⊕ (Unit × List (List Int))) := fun ((n, (), (), t11, t12), (out, t10)) =>(.test (decide (t12 < t11)) (.test (decide ((0 ≤ t12) ∧ (t12 < (t10.length : Int)))) (.sub (t10[(0 + (Int.toNat t12))]?) fun z0 =>(.sub (F92 (n, z0)) fun z1 =>(qz out (qz z1.2 (qz t10 (.sub (z06 ((n, ((), ((), ((out.length : Int), ((), (t11, t12)))))), (out, (z1.2, t10)))) fun z2 =>(.test (decide (0 ≤ z2.1.2.2.2.1)) (.test (decide ((0 ≤ (Int.toNat z2.1.2.2.2.1)) ∧ ((Int.toNat z2.1.2.2.2.1) ≤ z2.2.1.length))) (.test (decide ((0 + ((Int.toNat z2.1.2.2.2.1) - 0)) ≤ z2.2.1.length)) (.test true (.test (decide ((2 * ((0 + (List.length (win z2.2.1 0 ((Int.toNat z2.1.2.2.2.1) - 0)))) * 25)) ≤ 140737488355328)) (.test (decide ((0 + z2.2.2.1.length) ≤ z2.2.2.1.length)) (.test (decide (1 ≤ (List.length (List.set (List.replicate 1 ([] : List Int)) 0 (win z2.2.2.1 0 z2.2.2.1.length))))) (.test (decide ((0 + (0 + (List.length (win z2.2.1 0 ((Int.toNat z2.1.2.2.2.1) - 0))))) ≤ (List.length ((win (List.replicate 0 ([] : List Int)) 0 0) ++ (win z2.2.1 0 ((Int.toNat z2.1.2.2.2.1) - 0)))))) (.test (decide ((2 * (((0 + (List.length (win z2.2.1 0 ((Int.toNat z2.1.2.2.2.1) - 0)))) + (List.length (win (List.set (List.replicate 1 ([] : List Int)) 0 (win z2.2.2.1 0 z2.2.2.1.length)) 0 1))) * 25)) ≤ 140737488355328)) (.test (decide (0 ≤ z2.1.2.2.2.1)) (.test (decide (((Int.toNat z2.1.2.2.2.1) ≤ z2.2.1.length) ∧ (z2.2.1.length ≤ z2.2.1.length))) (.test (decide (((0 + (Int.toNat z2.1.2.2.2.1)) + (z2.2.1.length - (Int.toNat z2.1.2.2.2.1))) ≤ z2.2.1.length)) (.test (decide ((0 + ((0 + (List.length (win z2.2.1 0 ((Int.toNat z2.1.2.2.2.1) - 0)))) + (List.length (win (List.set (List.replicate 1 ([] : List Int)) 0 (win z2.2.2.1 0 z2.2.2.1.length)) 0 1)))) ≤ (List.length ((win ((win (List.replicate 0 ([] : List Int)) 0 0) ++ (win z2.2.1 0 ((Int.toNat z2.1.2.2.2.1) - 0))) 0 (0 + (List.length (win z2.2.1 0 ((Int.toNat z2.1.2.2.2.1) - 0))))) ++ (win (List.set (List.replicate 1 ([] : List Int)) 0 (win z2.2.2.1 0 z2.2.2.1.length)) 0 1))))) (.test (decide ((2 * ((((0 + (List.length (win z2.2.1 0 ((Int.toNat z2.1.2.2.2.1) - 0)))) + (List.length (win (List.set (List.replicate 1 ([] : List Int)) 0 (win z2.2.2.1 0 z2.2.2.1.length)) 0 1))) + (List.length (win z2.2.1 (0 + (Int.toNat z2.1.2.2.2.1)) (z2.2.1.length - (Int.toNat z2.1.2.2.2.1))))) * 25)) ≤ 140737488355328)) (.test (decide ((0 = 0) ∧ ((((0 + (List.length (win z2.2.1 0 ((Int.toNat z2.1.2.2.2.1) - 0)))) + (List.length (win (List.set (List.replicate 1 ([] : List Int)) 0 (win z2.2.2.1 0 z2.2.2.1.length)) 0 1))) + (List.length (win z2.2.1 (0 + (Int.toNat z2.1.2.2.2.1)) (z2.2.1.length - (Int.toNat z2.1.2.2.2.1))))) = (List.length ((win ((win ((win (List.replicate 0 ([] : List Int)) 0 0) ++ (win z2.2.1 0 ((Int.toNat z2.1.2.2.2.1) - 0))) 0 (0 + (List.length (win z2.2.1 0 ((Int.toNat z2.1.2.2.2.1) - 0))))) ++ (win (List.set (List.replicate 1 ([] : List Int)) 0 (win z2.2.2.1 0 z2.2.2.1.length)) 0 1)) 0 ((0 + (List.length (win z2.2.1 0 ((Int.toNat z2.1.2.2.2.1) - 0)))) + (List.length (win (List.set (List.replicate 1 ([] : List Int)) 0 (win z2.2.2.1 0 z2.2.2.1.length)) 0 1)))) ++ (win z2.2.1 (0 + (Int.toNat z2.1.2.2.2.1)) (z2.2.1.length - (Int.toNat z2.1.2.2.2.1)))))))) (qz z2.2.2.2 (.ret (Sum.inl ((z2.1.1, ((), ((), (z2.1.2.2.2.2.2.1, (w64 (z2.1.2.2.2.2.2.2 + 1)))))), (((win ((win ((win (List.replicate 0 ([] : List Int)) 0 0) ++ (win z2.2.1 0 ((Int.toNat z2.1.2.2.2.1) - 0))) 0 (0 + (List.length (win z2.2.1 0 ((Int.toNat z2.1.2.2.2.1) - 0))))) ++ (win (List.set (List.replicate 1 ([] : List Int)) 0 (win z2.2.2.1 0 z2.2.2.1.length)) 0 1)) 0 ((0 + (List.length (win z2.2.1 0 ((Int.toNat z2.1.2.2.2.1) - 0)))) + (List.length (win (List.set (List.replicate 1 ([] : List Int)) 0 (win z2.2.2.1 0 z2.2.2.1.length)) 0 1)))) ++ (win z2.2.1 (0 + (Int.toNat z2.1.2.2.2.1)) (z2.2.1.length - (Int.toNat z2.1.2.2.2.1)))), z2.2.2.2))))) .fail) .fail) .fail) .fail) .fail) .fail) .fail) .fail) .fail) .fail) .fail) .fail) .fail) .fail) .fail))))))) .fail) (qz out (.ret (Sum.inr ((), out)))))
def za3t (v) := zav (fun v => (zdx v).run) v
def zamk : List FO := [⟨[(.one (.rw 0 0))], [qr2]⟩]
def zbaj : Int → T (Unit × List (List Int)) := fun n =>(.sub (F137 n) fun z0 =>(.test (decide ((0 = 0) ∧ (0 = (List.length ([] : List (List Int)))))) (qz z0.2 (.sub (za3t ((n, ((), ((), ((z0.2.length : Int), (0 : Int))))), (([] : List (List Int)), z0.2))) fun z1 =>(qz z1.2 (.ret ((), z1.2))))) .fail))
def F73 (v) := (zbaj v).run
def zaw9 : TEnv := (((E0.add1 zas6 z6b z6a F137).add1 zbed zant zans F92).add1 zbd4 zamh zamg F72)
theorem z6w : (zaw9).OK := (((E0ok.add1 za7i).add1 zbim).add1 zbhn)
def zx8 : Nat → Option zal := fun id => if id = 7 then some (LSh.told zrj 0 (zdy)) else if id = 3 then some (LSh.told zri 0 (zdx)) else none
theorem zamj : zan Tryz.prog 0 (zad (zac zv1) [0, 0]) (LSh.told zrj 0 (zdy)) :=
 zak (E := zaw9) (z6w) (told := zx8) (l := zrj) (step := zdy) (zab (ls := []) (by kernel_rfl) trivial) (by kernel_rfl) (fun v => by kernel_rfl)
theorem zami : zan Tryz.prog 0 (zad (zac zv1) [0]) (LSh.told zri 0 (zdx)) :=
 zak (E := zaw9) (z6w) (told := zx8) (l := zri) (step := zdx) (zab (ls := [zad (zac zv1) [0, 0]]) (by kernel_rfl) ⟨.inr ⟨_, by kernel_rfl, zamj⟩, trivial⟩) (by kernel_rfl) (fun v => by kernel_rfl)
theorem zbhp : FOK Tryz.prog zbd5 zaml zamk F73 :=
 zao (E := zaw9) (z6w) (told := zx8) (fl := []) (c := zac zv1) (s := zaml) (l := zamk) (tree := zbaj) zaz1 (by kernel_rfl) (by kernel_rfl) (by kernel_rfl) (zab (ls := [zad (zac zv1) [0]]) (by kernel_rfl) ⟨.inr ⟨_, by kernel_rfl, zami⟩, trivial⟩) (fun v => by kernel_rfl)
theorem z07 (n : Int) (q : List Int) (out : List (List Int)) (t10 : List (List Dg)) (t11 t12 : Int) (hl : out.length < 1000000000) (hq : q.length < 1000000) (ho : ∀ x ∈ out, x.length = q.length) :
  ∀ k, k ≤ out.length → z06 ((n, ((), ((), ((k : Int), ((), (t11, t12)))))), (out, (q, t10))) = some ((n, ((), ((), ((zev q out k : Int), ((), (t11, t12)))))), (out, (q, t10)))
 | 0, hk => by
  simp only [z06, zev]
  exact zag (by simp [zdy, T.run])
 | k + 1, hk => by
  have c0 : ((k + 1 : Nat) : Int) > 0 := by omega
  have c1 : (0 : Int) ≤ (k : Int) ∧ (k : Int) < (out.length : Int) := by omega
  have w1 : w64 (((k + 1 : Nat) : Int) - 1) = (k : Int) := by rw [zae (by omega) (by omega)]; omega
  have g1 := zbct (show k < out.length by omega)
  have hb := zbhm q (gL out k) (ho _ (qp g1)).symm hq
  unfold zev
  cases hlt : ltL q (gL out k) with
  | true =>
   rw [hlt] at hb
   have ih := z07 n q out t10 t11 t12 hl hq ho k (by omega)
   simp only [z06, if_true] at ih ⊢
   rw [← ih]
   refine zah ?_
   simp only [zdy, T.run, c0, c1, w1, decide_true, if_true, and_self, true_and, qe, Nat.zero_add, g1, qa, qi, zap, hb]
  | false =>
   rw [hlt] at hb
   simp only [z06, qj, if_false]
   refine zag ?_
   simp only [zdy, T.run, c0, c1, w1, decide_true, if_true, and_self, true_and, qe, Nat.zero_add, g1, qa, qi, zap, hb, qj, if_false]
theorem zbho (n : Nat) (hn : 3 ≤ n ∧ n ≤ 9) : F73 (n : Int) = some ((), allQ n) := by
 have hlen := zp1 n hn.2
 have h := zbm (step := fun v => (zdx v).run) (xs := allT n) (fun k (s : List (List Int)) => s.length = k ∧ ∀ x ∈ s, x.length = n) (fun k s => (((n : Int), ((), ((), (((allT n).length : Int), (k : Int))))), (s, allT n))) (fun s ds => insL s (quid n ds)) (fun s => ((), s))
  (fun k s ds hP hds => by
   obtain ⟨hs, hx⟩ := hP
   have hlt := zai hds
   obtain ⟨q1, q2⟩ := zao2 hn (qp hds)
   have hq := zbil n ds ⟨by omega, by omega⟩ (by omega) q2
   have hpl := z07 (n : Int) (quid n ds) s (allT n) ((allT n).length : Int) (k : Int) (by omega) (by rw [zgr]; omega) (fun x hx' => by rw [hx x hx', zgr]) s.length (qi _)
   have hp1 := (zk6 (quid n ds) s s.length).1
   refine ⟨?_, by rw [z7k, hs], fun x hx' => ?_⟩
   ·have c0 : (k : Int) < ((allT n).length : Int) := by omega
    have c1 : (0 : Int) ≤ (k : Int) ∧ (k : Int) < ((allT n).length : Int) := by omega
    have w1 : w64 ((k : Int) + 1) = ((k + 1 : Nat) : Int) := by rw [zae (by omega) (by omega)]; omega
    have hins : insL s (quid n ds) = s.take (zev (quid n ds) s s.length) ++ quid n ds :: s.drop (zev (quid n ds) s s.length) := rfl
    rw [hins]
    generalize zev (quid n ds) s s.length = m at *
    have t1 : win s 0 (m - 0) = s.take m := zfm _ _
    have t2 : win (s.take m) 0 m = s.take m := by rw [zfm, List.take_take, Nat.min_self]
    have t3 : win s m (s.length - m) = s.drop m := by unfold win; rw [List.take_of_length_le (by simp)]
    have l1 : (s.take m).length = m := by simp; omega
    have l2 : (s.drop m).length = s.length - m := by simp
    have t4 : win ([] : List (List Int)) 0 0 = [] := rfl
    have l3 : (s.take m ++ [quid n ds]).length = m + 1 := by simp; omega
    have t5 : win (s.take m ++ [quid n ds]) 0 (m + 1) = s.take m ++ [quid n ds] := by rw [← l3]; exact zap _
    have e : s.take m ++ [quid n ds] ++ s.drop m = s.take m ++ quid n ds :: s.drop m := by simp
    have l4 : (s.take m ++ quid n ds :: s.drop m).length = s.length + 1 := by simp; omega
    have n1 : (0 : Int) ≤ (m : Int) := by omega
    have n2 : 0 ≤ m ∧ m ≤ s.length := by omega
    have n3 : m ≤ s.length := by omega
    have n4 : 2 * ((m + 1 + (s.length - m)) * 25) ≤ 140737488355328 := by omega
    have n5 : 2 * (m * 25) ≤ 140737488355328 := by omega
    have n6 : 2 * ((m + 1) * 25) ≤ 140737488355328 := by omega
    have n7 : m + (s.length - m) ≤ s.length := by omega
    have n8 : m + 1 + (s.length - m) = s.length + 1 := by omega
    have n9 : m ≤ s.length ∧ s.length ≤ s.length := by omega
    have hone : win (List.set (List.replicate 1 ([] : List Int)) 0 (quid n ds)) 0 1 = [quid n ds] := rfl
    simp only [zdx, T.run, c0, c1, decide_true, if_true, and_self, true_and, qe, Nat.zero_add, hds, qa, hq, hpl, n1, n2, n3, t1, l1, n5, List.replicate_zero, t4, qw, t2, zap, hone, qk, qq, qy, kj, qi, n6, n7, n9, t3, l2, l3, t5, n4, e, l4, n8, w1]
    rw [if_pos (qd (by omega)), if_pos (qd (by omega))]
   ·rcases List.mem_cons.1 ((ztj s (quid n ds)).mem_iff.1 hx') with rfl | h
    ·exact zgr n ds
    ·exact hx x h)
  (fun s hs => by simp [zdx, T.run])
  [] ⟨rfl, by simp⟩
 have hfold : (allT n).foldl (fun s ds => insL s (quid n ds)) [] = allQ n := by
  unfold allQ
  rw [← zaet, List.foldl_map]
 simp only [ka] at h
 simp only [F73, zbaj, T.run, za7h n hn, qa, qq, true_and, decide_true, if_true, za3t, h.1, hfold]
def zxm : FSh := ⟨[(.ag [(.sl (.int .i64) false false)]), (.one (.sl (.int .i64) false false))], []⟩
def zm3 : LSh := ⟨(fun ex => match ex with | .norm => (nz [1, 14, 15, 16]) | .exit i => if i = 0 then [] else [] | .ret => (nz [4])), [(1, qo5), (14, qo5), (15, qo1), (16, qo1)], [], [⟨.ret, [(4, qo2)], []⟩, ⟨(.exit 0), [], []⟩], [], []⟩
def zcs : (List Int × List Int × Int × Int) → T ((List Int × List Int × Int × Int) ⊕ (Bool ⊕ Unit)) := fun (quiddity, t14, t15, t16) =>(.test (decide (t16 < t15)) (.test (decide ((0 ≤ t16) ∧ (t16 < (t14.length : Int)))) (.sub (t14[(Int.toNat t16)]?) fun z0 =>(.test (z0 != 0) (.test (decide ((0 ≤ t16) ∧ (t16 < (quiddity.length : Int)))) (.sub (quiddity[(Int.toNat t16)]?) fun z1 =>(.test (z0 != z1) (.ret (Sum.inr (Sum.inl false))) (.ret (Sum.inl (quiddity, (t14, (t15, (w64 (t16 + 1))))))))) .fail) (.ret (Sum.inl (quiddity, (t14, (t15, (w64 (t16 + 1))))))))) .fail) (.ret (Sum.inr (Sum.inr ()))))
def zahx (v) := zav (fun v => (zcs v).run) v
def zxl : List FO := [⟨[(.one .sb)], []⟩]
def zah0 : (List Int × List Int) → T Bool := fun (p_0, quiddity) =>(.test ((quiddity.length : Int) != (p_0.length : Int)) (.ret false) (.sub (zahx (quiddity, (p_0, ((p_0.length : Int), (0 : Int))))) fun z0 =>(.test (Sum.isLeft z0) (.sub (Sum.getLeft? z0) fun z1 =>(.ret z1)) (.sub (Sum.getRight? z0) fun z2 =>(.ret true)))))
def F125 (v) := (zah0 v).run
def zahw : TEnv := E0
theorem z8j : (zahw).OK := E0ok
def z0k : Nat → Option zal := fun id => if id = 4 then some (LSh.told zm3 0 (zcs)) else none
theorem zadm : zan Tryz.prog 0 (zad (zac zy1) [0]) (LSh.told zm3 0 (zcs)) :=
 zak (E := zahw) (z8j) (told := z0k) (l := zm3) (step := zcs) (zab (ls := []) (by kernel_rfl) trivial) (by kernel_rfl) (fun v => by kernel_rfl)
theorem zahz : FOK Tryz.prog zab3 zxm zxl F125 :=
 zao (E := zahw) (z8j) (told := z0k) (fl := []) (c := zac zy1) (s := zxm) (l := zxl) (tree := zah0) zaq9 (by kernel_rfl) (by kernel_rfl) (by kernel_rfl) (zab (ls := [zad (zac zy1) [0]]) (by kernel_rfl) ⟨.inr ⟨_, by kernel_rfl, zadm⟩, trivial⟩) (fun v => by kernel_rfl)
theorem zahy (p q : List Int) (hl : p.length < 4611686018427387904) : F125 (p, q) = some (fits p q) := by
 simp only [F125, zah0, T.run, fits]
 by_cases he : p.length = q.length
 ·have h := zjn (step := fun v => (zcs v).run) (xs := p.zip q) (fun x => !(x.1 == 0 || x.1 == x.2)) (fun k => (q, (p, ((p.length : Int), (k : Int))))) (.inl false) (.inr ())
   (fun k x hx => by
    obtain ⟨x1, x2⟩ := x
    rw [List.getElem?_zip_eq_some] at hx
    obtain ⟨h1, h2⟩ := hx
    simp only at h1 h2
    have hk := zai h1
    have hk2 := zai h2
    have c0 : (k : Int) < (p.length : Int) := by omega
    have c1 : (0 : Int) ≤ (k : Int) ∧ (k : Int) < (p.length : Int) := by omega
    have c2 : (0 : Int) ≤ (k : Int) ∧ (k : Int) < (q.length : Int) := by omega
    have w1 : w64 ((k : Int) + 1) = ((k + 1 : Nat) : Int) := by rw [zae (by omega) (by omega)]; omega
    simp only [zcs, T.run, c0, c1, c2, decide_true, if_true, and_self, qe, h1, h2, qa, w1]
    by_cases e0 : x1 = 0 <;> by_cases e1 : x1 = x2 <;> simp [e0, e1])
   (by simp [zcs, T.run, he])
  simp only [ka] at h
  have hne : ((q.length : Int) != (p.length : Int)) = false := by simp [he]
  simp only [zahx, h, hne, qd he]
  cases (p.zip q).any (fun x => !(x.1 == 0 || x.1 == x.2)) <;> simp
 ·have hne : ((q.length : Int) != (p.length : Int)) = true := by simp; omega
  simp [hne, he]
def zkg : FSh := ⟨[(.ag [(.sl (.int .i64) false false)])], []⟩
def znd : LSh := ⟨(fun ex => match ex with | .norm => (nz [1, 4, 13, 14, 15]) | .exit i => if i = 0 then (nz [4]) else [] | .ret => (nz [2, 3])), [(1, qo3), (4, qo9), (13, qo8), (14, qo1), (15, qo1)], [(.rcd 0 [(.sl (.int .i64) false false)]), qr2, qr2], [⟨(.exit 0), [(4, qo4)], [qr2]⟩], [], []⟩
def zcv : ((Unit × Unit × Unit × Int × Int) × (List Int × List (List Int) × List (List Int))) → T (((Unit × Unit × Unit × Int × Int) × (List Int × List (List Int) × List (List Int))) ⊕ (Unit × List (List Int))) := fun (((), (), (), t14, t15), (p_0, out, t13)) =>(.test (decide (t15 < t14)) (.test (decide ((0 ≤ t15) ∧ (t15 < (t13.length : Int)))) (.sub (t13[(0 + (Int.toNat t15))]?) fun z0 =>(.sub (F125 (p_0, z0)) fun z1 =>(.test z1 (.test (decide (1 ≤ (List.length (List.set (List.replicate 1 ([] : List Int)) 0 z0)))) (.test (decide ((0 + out.length) ≤ out.length)) (.test (decide ((2 * ((out.length + (List.length (win (List.set (List.replicate 1 ([] : List Int)) 0 z0) 0 1))) * 25)) ≤ 140737488355328)) (.test (decide ((0 = 0) ∧ ((out.length + (List.length (win (List.set (List.replicate 1 ([] : List Int)) 0 z0) 0 1))) = (List.length ((win out 0 out.length) ++ (win (List.set (List.replicate 1 ([] : List Int)) 0 z0) 0 1)))))) (qz t13 (.ret (Sum.inl (((), ((), ((), (t14, (w64 (t15 + 1)))))), (p_0, (((win out 0 out.length) ++ (win (List.set (List.replicate 1 ([] : List Int)) 0 z0) 0 1)), t13)))))) .fail) .fail) .fail) .fail) (qz out (qz t13 (.ret (Sum.inl (((), ((), ((), (t14, (w64 (t15 + 1)))))), (p_0, (out, t13)))))))))) .fail) (qz out (.ret (Sum.inr ((), out)))))
def zqv (v) := zav (fun v => (zcv v).run) v
def zkf : List FO := [⟨[(.one (.rw 0 0)), (.one .sb)], [qr2]⟩]
def zaiq : List Int → T ((Unit × Bool) × List (List Int)) := fun p_0 =>(.sub (F123 p_0) fun z0 =>(.test (! z0) (.test true (.ret (((), false), ([] : List (List Int)))) .fail) (.sub (F73 (p_0.length : Int)) fun z1 =>(.test (decide ((0 = 0) ∧ (0 = (List.length ([] : List (List Int)))))) (qz z1.2 (.sub (zqv (((), ((), ((), ((z1.2.length : Int), (0 : Int))))), (p_0, (([] : List (List Int)), z1.2)))) fun z2 =>(.test (decide ((z2.2.length : Int) > 300)) (.test true (.ret (((), false), ([] : List (List Int)))) .fail) (qz z2.2 (.ret (((), true), z2.2)))))) .fail))))
def F138 (v) := (zaiq v).run
def zaip : TEnv := (((E0.add1 zpb zh9 zh8 F123).add1 zbd5 zaml zamk F73).add1 zab3 zxm zxl F125)
theorem z8r : (zaip).OK := (((E0ok.add1 zm0).add1 zbhp).add1 zahz)
def z0q : Nat → Option zal := fun id => if id = 5 then some (LSh.told znd 0 (zcv)) else none
theorem zadv : zan Tryz.prog 0 (zad (zac zy6) [0]) (LSh.told znd 0 (zcv)) :=
 zak (E := zaip) (z8r) (told := z0q) (l := znd) (step := zcv) (zab (ls := []) (by kernel_rfl) trivial) (by kernel_rfl) (fun v => by kernel_rfl)
theorem zqx : FOK Tryz.prog ztq zkg zkf F138 :=
 zao (E := zaip) (z8r) (told := z0q) (fl := []) (c := zac zy6) (s := zkg) (l := zkf) (tree := zaiq) zari (by kernel_rfl) (by kernel_rfl) (by kernel_rfl) (zab (ls := [zad (zac zy6) [0]]) (by kernel_rfl) ⟨.inr ⟨_, by kernel_rfl, zadv⟩, trivial⟩) (fun v => by kernel_rfl)
theorem zqw (p : List Int) (hl : p.length < 4611686018427387904) : F138 p = some (((), (solR p).1), (solR p).2) := by
 rw [F138, zaiq, T.run_sub, zmz p hl, qa, T.run_test]
 unfold solR
 cases hp : isPz p with
 | false => simp [T.run]
 | true =>
  have hpl := zdk hp
  have hq := zye p.length hpl.2
  have key : ∀ (t : List (List Int)), t.length ≤ 134217728 → ∀ m k (s : List (List Int)), k + m = t.length → s.length ≤ k → zqv (((), ((), ((), ((t.length : Int), (k : Int))))), (p, (s, t))) = some ((), s ++ (t.drop k).filter (fits p)) := by
   intro t ht m
   induction m with
   | zero =>
    intro k s hk hs
    have : k = t.length := by omega
    subst this
    rw [List.drop_length, List.filter_nil, kq]
    simp only [zqv]
    exact zag (by simp [zcv, T.run])
   | succ m ih =>
    intro k s hk hs
    have hlt : k < t.length := by omega
    have hds := qb hlt
    have c0 : (k : Int) < (t.length : Int) := by omega
    have c1 : (0 : Int) ≤ (k : Int) ∧ (k : Int) < (t.length : Int) := by omega
    have w1 : w64 ((k : Int) + 1) = ((k + 1 : Nat) : Int) := by rw [zae (by omega) (by omega)]; omega
    have c2 : 2 * ((s.length + 1) * 25) ≤ 140737488355328 := by omega
    have hidx : t[0 + (k : Int).toNat]? = some t[k] := by rw [qe, Nat.zero_add]; exact hds
    have hff := zahy p t[k] hl
    rw [qm hlt, List.filter_cons]
    cases hf : fits p t[k] with
    | true =>
     have ih := ih (k + 1) (s ++ [t[k]]) (by omega) (by simp; omega)
     have e : s ++ t[k] :: (t.drop (k + 1)).filter (fits p) = s ++ [t[k]] ++ (t.drop (k + 1)).filter (fits p) := by simp
     simp only [if_true]
     rw [e]
     simp only [zqv] at ih ⊢
     rw [← ih]
     refine zah ?_
     rw [hf] at hff
     have hone : win (List.set (List.replicate 1 ([] : List Int)) 0 t[k]) 0 1 = [t[k]] := rfl
     simp only [zcv, T.run_test, T.run_sub, T.run_ret, T.run_fail]
     rw [if_pos (qd c0), if_pos (qd c1), hidx, qa, hff, qa, if_pos rfl]
     simp only [Nat.zero_add, qi, zap, hone, qk, qq, qy, kj, c2, w1, ql, decide_true, if_true, and_self]
    | false =>
     have ih := ih (k + 1) s (by omega) (by omega)
     simp only [qj, if_false]
     simp only [zqv] at ih ⊢
     rw [← ih]
     refine zah ?_
     rw [hf] at hff
     simp only [zcv, T.run_test, T.run_sub, T.run_ret, T.run_fail]
     rw [if_pos (qd c0), if_pos (qd c1), hidx, qa, hff, qa, if_neg Bool.false_ne_true]
     simp only [w1, decide_true, if_true, and_self]
  have h5 := key (allQ p.length) hq (allQ p.length).length 0 [] (by omega) (by simp)
  rw [List.drop_zero, qw, ka] at h5
  have hsl : (allQ p.length).filter (fits p) = solL p := rfl
  rw [hsl] at h5
  rw [if_neg (by simp), T.run_sub, zbho p.length hpl, qa, T.run_test, if_pos (by simp), T.run_test, if_pos (by simp), T.run_sub, h5, qa]
  generalize solL p = r
  simp only [T.run_test, T.run_ret, T.run_fail]
  by_cases h3 : r.length ≤ 300
  ·have c : ¬ ((r.length : Int) > 300) := by omega
   simp [c, h3]
  ·have c : (r.length : Int) > 300 := by omega
   simp [c, h3]
def z44 : FSh := ⟨[(.ag [(.sl (.int .i64) false false)])], []⟩
def z43 : List FO := [⟨[(.one (.rw 0 0)), (.one .sb)], [qr2]⟩]
def zaf9 : List Int → T ((Unit × Bool) × List (List Int)) := fun p_0 =>(.sub (F138 p_0) fun z0 =>(qz z0.2 (.ret (((), z0.1.2), z0.2))))
def F104 (v) := (zaf9 v).run
def za2b : TEnv := (E0.add1 ztq zkg zkf F138)
theorem zava : (za2b).OK := (E0ok.add1 zqx)
def zaga : Nat → Option zal := fun id => none
theorem za6k : FOK Tryz.prog zasr z44 z43 F104 :=
 zao (E := za2b) (zava) (told := zaga) (fl := []) (c := zac zap2) (s := z44) (l := z43) (tree := zaf9) zaqq (by kernel_rfl) (by kernel_rfl) (by kernel_rfl) (zab (ls := []) (by kernel_rfl) trivial) (fun v => by kernel_rfl)
theorem za6j (p : List Int) (hl : p.length < 4611686018427387904) : F104 p = some (((), (solR p).1), (solR p).2) := by
 rw [F104, zaf9, T.run_sub, zqw p hl, qa, T.run_test, if_pos (by simp), T.run_ret]
def zaku : FSh := ⟨[(.ag [(.sl (.int .i64) false false)])], []⟩
def zakt : List FO := [⟨[(.one (.si .i64)), (.one .sb)], []⟩]
def za9c : List Int → T (Int × Bool) := fun p_0 =>(.sub (F102 p_0) fun z0 =>(.ret ((z0.2.length : Int), z0.1.2)))
def F51 (v) := (za9c v).run
def zbgm : TEnv := (E0.add1 z3k zqc zqb F102)
theorem za9b : (zbgm).OK := (E0ok.add1 z42)
def zawk : Nat → Option zal := fun id => none
theorem zbgn : FOK Tryz.prog zbdq zaku zakt F51 :=
 zao (E := zbgm) (za9b) (told := zawk) (fl := []) (c := zac za5b) (s := zaku) (l := zakt) (tree := za9c) zazf (by kernel_rfl) (by kernel_rfl) (by kernel_rfl) (zab (ls := []) (by kernel_rfl) trivial) (fun v => by kernel_rfl)
theorem zaks (p : List Int) (hl : p.length < 4611686018427387904) : F51 p = some (((solR p).2.length : Int), (solR p).1) := by
 rw [F51, za9c, T.run_sub, zqa p hl, qa, T.run_ret]
def zakw : FSh := ⟨[(.ag [(.sl (.int .i64) false false)])], []⟩
def zakv : List FO := [⟨[(.one (.si .i64)), (.one .sb)], []⟩]
def za9e : List Int → T (Int × Bool) := fun p_0 =>(.sub (F138 p_0) fun z0 =>(.ret ((z0.2.length : Int), z0.1.2)))
def F52 (v) := (za9e v).run
def zbgo : TEnv := (E0.add1 ztq zkg zkf F138)
theorem za9d : (zbgo).OK := (E0ok.add1 zqx)
def zawl : Nat → Option zal := fun id => none
theorem zbgq : FOK Tryz.prog zbdr zakw zakv F52 :=
 zao (E := zbgo) (za9d) (told := zawl) (fl := []) (c := zac za5c) (s := zakw) (l := zakv) (tree := za9e) zazg (by kernel_rfl) (by kernel_rfl) (by kernel_rfl) (zab (ls := []) (by kernel_rfl) trivial) (fun v => by kernel_rfl)
theorem zbgp (p : List Int) (hl : p.length < 4611686018427387904) : F52 p = some (((solR p).2.length : Int), (solR p).1) := by
 rw [F52, za9e, T.run_sub, zqw p hl, qa, T.run_ret]
def z0z : FSh := ⟨[(.ag [(.sl (.int .i64) false false)])], []⟩
def z0y : List FO := [⟨[(.one (.rw 0 0)), (.one .sb)], [qr2]⟩]
def zalk : List Int → T ((Unit × Bool) × List (List Int)) := fun p_0 =>(.sub (F102 p_0) fun z0 =>(.test z0.1.2 (qz z0.2 (.ret (((), (decide ((z0.2.length : Int) > 0))), z0.2))) (qz z0.2 (.ret (((), false), z0.2)))))
def F61 (v) := (zalk v).run
def zbg3 : TEnv := (E0.add1 z3k zqc zqb F102)
theorem za9w : (zbg3).OK := (E0ok.add1 z42)
def zawv : Nat → Option zal := fun id => none
theorem zalj : FOK Tryz.prog zatf z0z z0y F61 :=
 zao (E := zbg3) (za9w) (told := zawv) (fl := []) (c := zac za5h) (s := z0z) (l := z0y) (tree := zalk) zazp (by kernel_rfl) (by kernel_rfl) (by kernel_rfl) (zab (ls := []) (by kernel_rfl) trivial) (fun v => by kernel_rfl)
theorem zbg4 (p : List Int) (hl : p.length < 4611686018427387904) : F61 p = some (((), (solR p).1 && decide (((solR p).2.length : Int) > 0)), (solR p).2) := by
 rw [F61, zalk, T.run_sub, zqa p hl, qa, T.run_test]
 dsimp only
 cases (solR p).1 with
 | true => rw [if_pos rfl, T.run_test, if_pos (by simp), T.run_ret]; rfl
 | false => rw [if_neg (by simp), T.run_test, if_pos (by simp), T.run_ret]; rfl
def zalm : FSh := ⟨[(.ag [(.sl (.int .i64) false false)])], []⟩
def zall : List FO := [⟨[(.one (.sl (.int .i64) false true)), (.one .sb)], []⟩]
def za9y : List Int → T (List Int × Bool) := fun p_0 =>(.sub (F61 p_0) fun z0 =>(.test (! z0.1.2) (.test true (.ret ((win ([] : List Int) 0 0), false)) .fail) (.test (decide (((0 : Int) ≤ (0 : Int)) ∧ (0 < (z0.2.length : Int)))) (.sub (z0.2[0]?) fun z1 =>(.ret (z1, true))) .fail)))
def F62 (v) := (za9y v).run
def zbg5 : TEnv := (E0.add1 zatf z0z z0y F61)
theorem za9x : (zbg5).OK := (E0ok.add1 zalj)
def zaww : Nat → Option zal := fun id => none
theorem zbg7 : FOK Tryz.prog zbdy zalm zall F62 :=
 zao (E := zbg5) (za9x) (told := zaww) (fl := [some (.int .i64), none]) (c := zac za5i) (s := zalm) (l := zall) (tree := za9y) zazq (by kernel_rfl) (by kernel_rfl) (by kernel_rfl) (zab (ls := []) (by kernel_rfl) trivial) (fun v => by kernel_rfl)
def fsR (p : List Int) : List Int × Bool := match (solR p).1, (solR p).2 with
 | true, q :: _ => (q, true)
 | _, _ => ([], false)
theorem zbg6 (p : List Int) (hl : p.length < 4611686018427387904) : F62 p = some (fsR p) := by
 unfold fsR
 rw [F62, za9y, T.run_sub, zbg4 p hl, qa, T.run_test]
 dsimp only
 cases (solR p).1 with
 | false => rw [if_pos (by rfl), T.run_test, if_pos (by rfl), T.run_ret]; rfl
 | true =>
  cases (solR p).2 with
  | nil => rw [if_pos (by rfl), T.run_test, if_pos (by rfl), T.run_ret]; rfl
  | cons q t =>
   rw [if_neg (by simp), T.run_test, if_pos (by simp), T.run_sub, kk, qa, T.run_ret]
def z9k : FSh := ⟨[(.ag [(.sl (.int .i64) false false)])], []⟩
def z9j : List FO := [⟨[(.one (.sl (.int .i64) false true)), (.one .sb)], []⟩]
def za90 : List Int → T (List Int × Bool) := fun p_0 =>(.sub (F138 p_0) fun z0 =>(.test (! z0.1.2) (.test true (.ret ((win ([] : List Int) 0 0), false)) .fail) (.test ((z0.2.length : Int) == 0) (.test true (.ret ((win ([] : List Int) 0 0), false)) .fail) (.test (decide (((0 : Int) ≤ (0 : Int)) ∧ (0 < (z0.2.length : Int)))) (.sub (z0.2[0]?) fun z1 =>(.ret (z1, true))) .fail))))
def F63 (v) := (za90 v).run
def zbg8 : TEnv := (E0.add1 ztq zkg zkf F138)
theorem za9z : (zbg8).OK := (E0ok.add1 zqx)
def zawx : Nat → Option zal := fun id => none
theorem za3p : FOK Tryz.prog za1b z9k z9j F63 :=
 zao (E := zbg8) (za9z) (told := zawx) (fl := [some (.int .i64), none]) (c := zac za5j) (s := z9k) (l := z9j) (tree := za90) zazr (by kernel_rfl) (by kernel_rfl) (by kernel_rfl) (zab (ls := []) (by kernel_rfl) trivial) (fun v => by kernel_rfl)
theorem za3o (p : List Int) (hl : p.length < 4611686018427387904) : F63 p = some (fsR p) := by
 unfold fsR
 rw [F63, za90, T.run_sub, zqw p hl, qa, T.run_test]
 dsimp only
 cases (solR p).1 with
 | false => rw [if_pos (by rfl), T.run_test, if_pos (by rfl), T.run_ret]; rfl
 | true =>
  rw [if_neg (by simp), T.run_test]
  cases (solR p).2 with
  | nil => rw [if_pos (by rfl), T.run_test, if_pos (by rfl), T.run_ret]; rfl
  | cons q t =>
   rw [if_neg (by simp; omega), T.run_test, if_pos (by simp), T.run_sub, kk, qa, T.run_ret]
def z9d : FSh := ⟨[.one (.sl (.int .i64) false false)], []⟩
def z9c : List FO := [⟨[.one (.rw 0 0)], [.row 0 (.int .i64)]⟩]
def F53 (v : List Int) : Option (Unit × List Int) := if v.length ≤ maxLen ∧ v.length * 8 ≤ 140737488355328 then some ((), v) else none
def zaky : Shelf.Ren := ⟨fun _ => zae0, fun t => if t = 4 then 4 else if t = 22 then 24 else 3, fun x => x⟩
theorem za9f : SlLaysE0.n41 Tryz.prog zaky :=
 { mixed := by kernel_rfl, f41 := ⟨"slices.Clone[[]int,int]", by kernel_rfl, by kernel_rfl⟩, t4 := by kernel_rfl, a4 := fun w => by kernel_rfl, z4 := fun w => by kernel_rfl, v4 := fun w => by kernel_rfl, t22 := by kernel_rfl, a22 := fun w => by kernel_rfl, z22 := fun w => by kernel_rfl, v22 := fun w => by kernel_rfl }
def zawm : TypeInfo := (Tryz.prog.info? 3).get (by kernel_rfl)
theorem zakx : FOK Tryz.prog zae0 z9d z9c F53 :=
 zyh (e := .int .i64) ⟨_, zazh, by kernel_rfl, by kernel_rfl⟩ (ρr := zaky) rfl za9f rfl zawm (.int .i64 0) 8 (by kernel_rfl) (by kernel_rfl) (by kernel_rfl) (by kernel_rfl) (by decide) (by decide) (fun w => by kernel_rfl)
def z9v : FSh := ⟨[(.ag [(.sl (.int .i64) false false)])], []⟩
def zrm : LSh := ⟨(fun ex => match ex with | .norm => (nz [6, 8, 21, 22, 23, 28, 29]) | .exit i => if i = 2 then (nz [6, 21, 22, 23]) else if i = 1 then (nz [6, 21, 22, 23]) else if i = 0 then (nz [6]) else [] | .ret => (nz [2, 3])), [(6, qo4), (8, (.one (.sl (.int .i64) false true))), (21, qo9), (22, qo1), (23, qo1), (28, qo1), (29, qo1)], [qr1, qr2], [⟨(.exit 2), [(6, qo4), (21, qo9), (22, qo1), (23, qo1)], [qr1, qr2]⟩], [], []⟩
def zc1 : ((Unit × List Int × Unit × Int × Int × Int × Int) × (List Int × List (List Int))) → T (((Unit × List Int × Unit × Int × Int × Int × Int) × (List Int × List (List Int))) ⊕ ((Unit × Unit × Int × Int) × (List Int × List (List Int)))) := fun (((), next, (), t22, t23, t28, t29), (out, t21)) =>(.test (decide (t29 < t28)) (.test (decide ((0 ≤ t29) ∧ (t29 < (out.length : Int)))) (.sub (out[(0 + (Int.toNat t29))]?) fun z0 =>(.test (decide ((0 ≤ t29) ∧ (t29 < (next.length : Int)))) (.sub (next[(Int.toNat t29)]?) fun z1 =>(.test (z0 != z1) (.test (decide ((0 ≤ t29) ∧ (t29 < (out.length : Int)))) (.sub (out[(0 + (Int.toNat t29))]?) fun z2 =>(.test (decide ((0 = 0) ∧ (out.length = (List.length (List.set out (0 + (Int.toNat t29)) (0 : Int)))))) (qz t21 (.ret (Sum.inl (((), (next, ((), (t22, (t23, (t28, (w64 (t29 + 1)))))))), ((List.set out (0 + (Int.toNat t29)) (0 : Int)), t21))))) .fail)) .fail) (qz out (qz t21 (.ret (Sum.inl (((), (next, ((), (t22, (t23, (t28, (w64 (t29 + 1)))))))), (out, t21)))))))) .fail)) .fail) (qz out (qz t21 (.ret (Sum.inr (((), ((), (t22, t23))), (out, t21)))))))
def zamt (v) := zav (fun v => (zc1 v).run) v
def zrl : LSh := ⟨(fun ex => match ex with | .norm => (nz [6, 21, 22, 23]) | .exit i => if i = 0 then (nz [6]) else [] | .ret => (nz [2, 3])), [(6, qo4), (21, qo9), (22, qo1), (23, qo1)], [qr1, qr2], [⟨(.exit 0), [(6, qo4)], [qr1]⟩], [], []⟩
def zdz : ((Unit × Unit × Int × Int) × (List Int × List (List Int))) → T (((Unit × Unit × Int × Int) × (List Int × List (List Int))) ⊕ (Unit × List Int)) := fun (((), (), t22, t23), (out, t21)) =>(.test (decide (t23 < t22)) (.test (decide ((0 ≤ t23) ∧ (t23 < (t21.length : Int)))) (.sub (t21[(0 + (Int.toNat t23))]?) fun z0 =>(qz out (qz t21 (.sub (zamt (((), (z0, ((), (t22, (t23, ((out.length : Int), (0 : Int))))))), (out, t21))) fun z1 =>(qz z1.2.1 (qz z1.2.2 (.ret (Sum.inl (((), ((), (z1.1.2.2.1, (w64 (z1.1.2.2.2 + 1))))), (z1.2.1, z1.2.2)))))))))) .fail) (qz out (.ret (Sum.inr ((), out)))))
def zamr (v) := zav (fun v => (zdz v).run) v
def z9u : List FO := [⟨[(.one (.rw 0 0)), (.one .sb)], [qr1]⟩]
def zbar : List Int → T ((Unit × Bool) × List Int) := fun p_0 =>(.sub (F61 p_0) fun z0 =>(.test (! z0.1.2) (.test true (.ret (((), false), ([] : List Int))) .fail) (.test (decide (((0 : Int) ≤ (0 : Int)) ∧ (0 < (z0.2.length : Int)))) (.sub (z0.2[0]?) fun z1 =>(.sub (F53 z1) fun z2 =>(qz z2.2 (qz z0.2 (.sub (zamr (((), ((), ((z0.2.length : Int), (0 : Int)))), (z2.2, z0.2))) fun z3 =>(qz z3.2 (.ret (((), true), z3.2)))))))) .fail)))
def F77 (v) := (zbar v).run
def zaxb : TEnv := ((E0.add1 zatf z0z z0y F61).add1 zae0 z9d z9c F53)
theorem z6x : (zaxb).OK := ((E0ok.add1 zalj).add1 zakx)
def zx9 : Nat → Option zal := fun id => if id = 9 then some (LSh.told zrm 0 (zc1)) else if id = 6 then some (LSh.told zrl 0 (zdz)) else none
theorem zamu : zan Tryz.prog 0 (zad (zac zv2) [0, 0]) (LSh.told zrm 0 (zc1)) :=
 zak (E := zaxb) (z6x) (told := zx9) (l := zrm) (step := zc1) (zab (ls := []) (by kernel_rfl) trivial) (by kernel_rfl) (fun v => by kernel_rfl)
theorem zams : zan Tryz.prog 0 (zad (zac zv2) [0]) (LSh.told zrl 0 (zdz)) :=
 zak (E := zaxb) (z6x) (told := zx9) (l := zrl) (step := zdz) (zab (ls := [zad (zac zv2) [0, 0]]) (by kernel_rfl) ⟨.inr ⟨_, by kernel_rfl, zamu⟩, trivial⟩) (by kernel_rfl) (fun v => by kernel_rfl)
theorem za3y : FOK Tryz.prog za1f z9v z9u F77 :=
 zao (E := zaxb) (z6x) (told := zx9) (fl := []) (c := zac zv2) (s := z9v) (l := z9u) (tree := zbar) zaz5 (by kernel_rfl) (by kernel_rfl) (by kernel_rfl) (zab (ls := [zad (zac zv2) [0]]) (by kernel_rfl) ⟨.inr ⟨_, by kernel_rfl, zams⟩, trivial⟩) (fun v => by kernel_rfl)
theorem zbaq (q s : List Int) (t21 : List (List Int)) (t22 t23 : Int) (hl : s.length < 1000000) (hq : q.length = s.length) : zamt (((), (q, ((), (t22, (t23, ((s.length : Int), (0 : Int))))))), (s, t21)) = some (((), ((), (t22, t23))), (zh5 s q, t21)) := by
 have h := zbm (step := fun v => (zc1 v).run) (xs := List.range s.length) (fun k (o : List Int) => o.length = s.length) (fun k o => (((), (q, ((), (t22, (t23, ((s.length : Int), (k : Int))))))), (o, t21))) (zop q) (fun o => (((), ((), (t22, t23))), (o, t21)))
  (fun k o x hP hx => by
   obtain ⟨hk, e⟩ := qh.1 hx
   simp only [List.getElem_range] at e
   subst e
   rw [List.length_range] at hk
   refine ⟨?_, by rw [zuv, hP]⟩
   have g0 := za8 (l := o) (p := k) (by omega)
   have g1 := za8 (l := q) (p := k) (by omega)
   have c0 : (k : Int) < (s.length : Int) := by omega
   have c1 : (0 : Int) ≤ (k : Int) ∧ (k : Int) < (o.length : Int) := by omega
   have c2 : (0 : Int) ≤ (k : Int) ∧ (k : Int) < (q.length : Int) := by omega
   have w1 : w64 ((k : Int) + 1) = ((k + 1 : Nat) : Int) := by rw [zae (by omega) (by omega)]; omega
   unfold zop
   by_cases hz : o.getD k 0 = q.getD k 0
   ·have e2 : (o.getD k 0 != q.getD k 0) = false := by simp only [hz]; simp
    rw [if_neg (fun hne => hne hz)]
    simp only [zc1, T.run, c0, c1, c2, decide_true, if_true, and_self, qe, Nat.zero_add, g0, g1, qa, e2, qj, if_false, w1]
   ·have e2 : (o.getD k 0 != q.getD k 0) = true := by rw [bne_iff_ne]; exact hz
    rw [if_pos hz]
    simp only [zc1, T.run, c0, c1, c2, decide_true, if_true, and_self, qe, Nat.zero_add, g0, g1, qa, e2, qy, w1])
  (fun o hs => by simp [zc1, T.run])
  s rfl
 simp only [ka] at h
 simp only [zamt]
 exact h.1
theorem zbap (n : Nat) (t : List (List Int)) (s : List Int) (hn : n < 1000) (hl : t.length < 1000000000) (hs : s.length = n) (ht : ∀ q ∈ t, q.length = n) : zamr (((), ((), ((t.length : Int), (0 : Int)))), (s, t)) = some ((), t.foldl zh5 s) := by
 have h := zbm (step := fun v => (zdz v).run) (xs := t) (fun k (o : List Int) => o.length = n) (fun k o => (((), ((), ((t.length : Int), (k : Int)))), (o, t))) zh5 (fun o => ((), o))
  (fun k o x hP hx => by
   have hlt := zai hx
   refine ⟨?_, by rw [zmk, hP]⟩
   have c0 : (k : Int) < (t.length : Int) := by omega
   have c1 : (0 : Int) ≤ (k : Int) ∧ (k : Int) < (t.length : Int) := by omega
   have w1 : w64 ((k : Int) + 1) = ((k + 1 : Nat) : Int) := by rw [zae (by omega) (by omega)]; omega
   have h1 := zbaq x o t (t.length : Int) (k : Int) (by omega) (by rw [ht x (qp hx), hP])
   simp only [zdz, T.run, c0, c1, decide_true, if_true, and_self, true_and, qe, Nat.zero_add, hx, qa, h1, w1])
  (fun o hs => by simp [zdz, T.run])
  s hs
 simp only [ka] at h
 simp only [zamr]
 exact h.1
theorem za3x (p : List Int) (hl : p.length < 4611686018427387904) : F77 p = some (((), (surR p).1), (surR p).2) := by
 have hsome : F61 p = some (((), ((solR p).1 && decide (((solR p).2.length : Int) > 0))), (solR p).2) := by
  rw [F61, zalk, T.run_sub, zqa p hl, qa, T.run_test]
  cases (solR p).1 <;> simp [T.run]
 rw [F77, zbar, T.run_sub, hsome, qa, T.run_test]
 unfold surR
 have hm : ∀ q ∈ (solR p).2, q.length = p.length ∧ p.length ≤ 9 := fun q h => zfl h
 have h3 := zmi p
 generalize solR p = r at *
 obtain ⟨ok, l⟩ := r
 simp only at hm h3
 cases ok with
 | false => simp [T.run]
 | true =>
  cases l with
  | nil => simp [T.run]
  | cons q t =>
   have hq := hm q (by simp)
   have hc : F53 q = some ((), q) := by
    unfold F53
    rw [if_pos]
    exact ⟨by unfold maxLen; omega, by omega⟩
   have h6 := zbap p.length (q :: t) q (by omega) (by omega) hq.1 (fun x hx => (hm x hx).1)
   have hpos : decide ((((q :: t).length : Nat) : Int) > 0) = true := qd (by rw [qk]; omega)
   simp only [T.run, hpos, Bool.and_self, Bool.not_true, qj, if_false]
   simp [hc]
   simp at h6
   rw [h6]
   simp
   try omega
def zxp : FSh := ⟨[(.ag [(.sl (.int .i64) false false)])], []⟩
def zm5 : LSh := ⟨(fun ex => match ex with | .norm => (nz [6, 27, 28, 29, 33, 34, 35]) | .exit i => if i = 2 then (nz [6, 27, 28, 29]) else if i = 1 then (nz [6, 27, 28, 29]) else if i = 0 then (nz [6]) else [] | .ret => (nz [2, 3])), [(6, qo4), (27, qo9), (28, qo1), (29, qo1), (33, (.one (.sl (.int .i64) false true))), (34, qo1), (35, qo1)], [qr1, qr2], [⟨(.exit 2), [(6, qo4), (27, qo9), (28, qo1), (29, qo1)], [qr1, qr2]⟩], [], []⟩
def zb6 : ((Unit × Unit × Int × Int × List Int × Int × Int) × (List Int × List (List Int))) → T (((Unit × Unit × Int × Int × List Int × Int × Int) × (List Int × List (List Int))) ⊕ ((Unit × Unit × Int × Int) × (List Int × List (List Int)))) := fun (((), (), t28, t29, t33, t34, t35), (out, t27)) =>(.test (decide (t35 < t34)) (.test (decide ((0 ≤ t35) ∧ (t35 < (t33.length : Int)))) (.sub (t33[(Int.toNat t35)]?) fun z0 =>(.test (decide ((0 ≤ t35) ∧ (t35 < (out.length : Int)))) (.sub (out[(0 + (Int.toNat t35))]?) fun z1 =>(.test (z1 != z0) (.test (decide ((0 ≤ t35) ∧ (t35 < (out.length : Int)))) (.sub (out[(0 + (Int.toNat t35))]?) fun z2 =>(.test (decide ((0 = 0) ∧ (out.length = (List.length (List.set out (0 + (Int.toNat t35)) (0 : Int)))))) (qz t27 (.ret (Sum.inl (((), ((), (t28, (t29, (t33, (t34, (w64 (t35 + 1)))))))), ((List.set out (0 + (Int.toNat t35)) (0 : Int)), t27))))) .fail)) .fail) (qz out (qz t27 (.ret (Sum.inl (((), ((), (t28, (t29, (t33, (t34, (w64 (t35 + 1)))))))), (out, t27)))))))) .fail)) .fail) (qz out (qz t27 (.ret (Sum.inr (((), ((), (t28, t29))), (out, t27)))))))
def z5x (v) := zav (fun v => (zb6 v).run) v
def zm4 : LSh := ⟨(fun ex => match ex with | .norm => (nz [6, 27, 28, 29]) | .exit i => if i = 0 then (nz [6]) else [] | .ret => (nz [2, 3])), [(6, qo4), (27, qo9), (28, qo1), (29, qo1)], [qr1, qr2], [⟨(.exit 0), [(6, qo4)], [qr1]⟩], [], []⟩
def zct : ((Unit × Unit × Int × Int) × (List Int × List (List Int))) → T (((Unit × Unit × Int × Int) × (List Int × List (List Int))) ⊕ (Unit × List Int)) := fun (((), (), t28, t29), (out, t27)) =>(.test (decide (t29 < t28)) (.test (decide ((0 ≤ t29) ∧ (t29 < (t27.length : Int)))) (.sub (t27[(0 + (Int.toNat t29))]?) fun z0 =>(qz out (qz t27 (.sub (z5x (((), ((), (t28, (t29, (z0, ((z0.length : Int), (0 : Int))))))), (out, t27))) fun z1 =>(qz z1.2.1 (qz z1.2.2 (.ret (Sum.inl (((), ((), (z1.1.2.2.1, (w64 (z1.1.2.2.2 + 1))))), (z1.2.1, z1.2.2)))))))))) .fail) (qz out (.ret (Sum.inr ((), out)))))
def z5w (v) := zav (fun v => (zct v).run) v
def zxo : List FO := [⟨[(.one (.rw 0 0)), (.one .sb)], [qr1]⟩]
def zah3 : List Int → T ((Unit × Bool) × List Int) := fun p_0 =>(.sub (F138 p_0) fun z0 =>(.test (! z0.1.2) (.test true (.ret (((), false), ([] : List Int))) .fail) (.test ((z0.2.length : Int) == 0) (.test true (.ret (((), false), ([] : List Int))) .fail) (.test (decide (((0 : Int) ≤ (0 : Int)) ∧ (0 < (z0.2.length : Int)))) (.sub (z0.2[0]?) fun z1 =>(.sub (F133 z1) fun z2 =>(qz z2.2 (qz z0.2 (.sub (z5w (((), ((), ((z0.2.length : Int), (0 : Int)))), (z2.2, z0.2))) fun z3 =>(qz z3.2 (.ret (((), true), z3.2)))))))) .fail))))
def F126 (v) := (zah3 v).run
def z8k : TEnv := ((E0.add1 ztq zkg zkf F138).add1 zpc zic zib F133)
theorem zxn : (z8k).OK := ((E0ok.add1 zqx).add1 zna)
def zqr : Nat → Option zal := fun id => if id = 9 then some (LSh.told zm5 0 (zb6)) else if id = 6 then some (LSh.told zm4 0 (zct)) else none
theorem zado : zan Tryz.prog 0 (zad (zac zn0) [0, 0]) (LSh.told zm5 0 (zb6)) :=
 zak (E := z8k) (zxn) (told := zqr) (l := zm5) (step := zb6) (zab (ls := []) (by kernel_rfl) trivial) (by kernel_rfl) (fun v => by kernel_rfl)
theorem zadn : zan Tryz.prog 0 (zad (zac zn0) [0]) (LSh.told zm4 0 (zct)) :=
 zak (E := z8k) (zxn) (told := zqr) (l := zm4) (step := zct) (zab (ls := [zad (zac zn0) [0, 0]]) (by kernel_rfl) ⟨.inr ⟨_, by kernel_rfl, zado⟩, trivial⟩) (by kernel_rfl) (fun v => by kernel_rfl)
theorem zah2 : FOK Tryz.prog zab4 zxp zxo F126 :=
 zao (E := z8k) (zxn) (told := zqr) (fl := []) (c := zac zn0) (s := zxp) (l := zxo) (tree := zah3) zara (by kernel_rfl) (by kernel_rfl) (by kernel_rfl) (zab (ls := [zad (zac zn0) [0]]) (by kernel_rfl) ⟨.inr ⟨_, by kernel_rfl, zadn⟩, trivial⟩) (fun v => by kernel_rfl)
theorem zavq (q s : List Int) (t27 : List (List Int)) (t28 t29 : Int) (hl : s.length < 1000000) (hq : q.length = s.length) : z5x (((), ((), (t28, (t29, (q, ((q.length : Int), (0 : Int))))))), (s, t27)) = some (((), ((), (t28, t29))), (zh5 s q, t27)) := by
 have h := zbm (step := fun v => (zb6 v).run) (xs := List.range s.length) (fun k (o : List Int) => o.length = s.length) (fun k o => (((), ((), (t28, (t29, (q, ((q.length : Int), (k : Int))))))), (o, t27))) (zop q) (fun o => (((), ((), (t28, t29))), (o, t27)))
  (fun k o x hP hx => by
   obtain ⟨hk, e⟩ := qh.1 hx
   simp only [List.getElem_range] at e
   subst e
   rw [List.length_range] at hk
   refine ⟨?_, by rw [zuv, hP]⟩
   have g0 := za8 (l := o) (p := k) (by omega)
   have g1 := za8 (l := q) (p := k) (by omega)
   have c0 : (k : Int) < (q.length : Int) := by omega
   have c1 : (0 : Int) ≤ (k : Int) ∧ (k : Int) < (o.length : Int) := by omega
   have c2 : (0 : Int) ≤ (k : Int) ∧ (k : Int) < (q.length : Int) := by omega
   have w1 : w64 ((k : Int) + 1) = ((k + 1 : Nat) : Int) := by rw [zae (by omega) (by omega)]; omega
   unfold zop
   by_cases hz : o.getD k 0 = q.getD k 0
   ·have e2 : (o.getD k 0 != q.getD k 0) = false := by simp only [hz]; simp
    rw [if_neg (fun hne => hne hz)]
    simp only [zb6, T.run, c0, c1, c2, decide_true, if_true, and_self, qe, Nat.zero_add, g0, g1, qa, e2, qj, if_false, w1]
   ·have e2 : (o.getD k 0 != q.getD k 0) = true := by rw [bne_iff_ne]; exact hz
    rw [if_pos hz]
    simp only [zb6, T.run, c0, c1, c2, decide_true, if_true, and_self, qe, Nat.zero_add, g0, g1, qa, e2, qy, w1])
  (fun o hs => by rw [List.length_range]; simp [zb6, T.run, hq])
  s rfl
 simp only [ka] at h
 simp only [z5x]
 exact h.1
theorem zavp (n : Nat) (t : List (List Int)) (s : List Int) (hn : n < 1000) (hl : t.length < 1000000000) (hs : s.length = n) (ht : ∀ q ∈ t, q.length = n) : z5w (((), ((), ((t.length : Int), (0 : Int)))), (s, t)) = some ((), t.foldl zh5 s) := by
 have h := zbm (step := fun v => (zct v).run) (xs := t) (fun k (o : List Int) => o.length = n) (fun k o => (((), ((), ((t.length : Int), (k : Int)))), (o, t))) zh5 (fun o => ((), o))
  (fun k o x hP hx => by
   have hlt := zai hx
   refine ⟨?_, by rw [zmk, hP]⟩
   have c0 : (k : Int) < (t.length : Int) := by omega
   have c1 : (0 : Int) ≤ (k : Int) ∧ (k : Int) < (t.length : Int) := by omega
   have w1 : w64 ((k : Int) + 1) = ((k + 1 : Nat) : Int) := by rw [zae (by omega) (by omega)]; omega
   have h1 := zavq x o t (t.length : Int) (k : Int) (by omega) (by rw [ht x (qp hx), hP])
   simp only [zct, T.run, c0, c1, decide_true, if_true, and_self, true_and, qe, Nat.zero_add, hx, qa, h1, w1])
  (fun o hs => by simp [zct, T.run])
  s hs
 simp only [ka] at h
 simp only [z5w]
 exact h.1
theorem zah1 (p : List Int) (hl : p.length < 4611686018427387904) : F126 p = some (((), (surR p).1), (surR p).2) := by
 rw [F126, zah3, T.run_sub, zqw p hl, qa, T.run_test]
 unfold surR
 have hm : ∀ q ∈ (solR p).2, q.length = p.length ∧ p.length ≤ 9 := fun q h => zfl h
 have h3 := zmi p
 generalize solR p = r at *
 obtain ⟨ok, l⟩ := r
 simp only at hm h3
 cases ok with
 | false => simp [T.run]
 | true =>
  cases l with
  | nil => simp [T.run]
  | cons q t =>
   have hq := hm q (by simp)
   have ho := zia q (by omega)
   have h6 := zavp p.length (q :: t) q (by omega) (by omega) hq.1 (fun x hx => (hm x hx).1)
   simp only [T.run, Bool.not_true, qj, if_false]
   simp [ho]
   simp at h6
   rw [h6]
   simp
   omega
def zamw : FSh := ⟨[(.ag [(.sl (.int .i64) false false)])], []⟩
def zamv : List FO := [⟨[(.one (.rw 0 0)), (.one .sb)], [qr1]⟩]
def zbat : List Int → T ((Unit × Bool) × List Int) := fun p_0 =>(.sub (F126 p_0) fun z0 =>(qz z0.2 (.ret (((), z0.1.2), z0.2))))
def F78 (v) := (zbat v).run
def zbht : TEnv := (E0.add1 zab4 zxp zxo F126)
theorem zbas : (zbht).OK := (E0ok.add1 zah2)
def zaxc : Nat → Option zal := fun id => none
theorem zbhv : FOK Tryz.prog zbd7 zamw zamv F78 :=
 zao (E := zbht) (zbas) (told := zaxc) (fl := []) (c := zac za5o) (s := zamw) (l := zamv) (tree := zbat) zaz6 (by kernel_rfl) (by kernel_rfl) (by kernel_rfl) (zab (ls := []) (by kernel_rfl) trivial) (fun v => by kernel_rfl)
theorem zbhu (p : List Int) (hl : p.length < 4611686018427387904) : F78 p = some (((), (surR p).1), (surR p).2) := by
 rw [F78, zbat, T.run_sub, zah1 p hl, qa, T.run_test, if_pos (by simp), T.run_ret]
def zxb : FSh := ⟨[(.one (.si .i64))], []⟩
def zxa : List FO := [⟨[(.one .sb)], []⟩]
def z79 : Int → T Bool := fun n =>(.sub (F122 (n, ((3 : Int), (12 : Int)))) fun z0 =>(.ret z0))
def F105 (v) := (z79 v).run
def za2c : TEnv := (E0.add1 zpa zh7 zh6 F122)
theorem zavb : (za2c).OK := (E0ok.add1 zmy)
def zagc : Nat → Option zal := fun id => none
theorem zagb : FOK Tryz.prog zaby zxb zxa F105 :=
 zao (E := za2c) (zavb) (told := zagc) (fl := []) (c := zac zap3) (s := zxb) (l := zxa) (tree := z79) zaqr (by kernel_rfl) (by kernel_rfl) (by kernel_rfl) (zab (ls := []) (by kernel_rfl) trivial) (fun v => by kernel_rfl)
def zak2 : FSh := ⟨[(.one (.sl (.int .i64) false false)), (.one (.si .i64))], []⟩
def zq8 : LSh := ⟨(fun ex => match ex with | .norm => (nz [0, 1, 7, 8]) | .exit i => if i = 0 then [] else [] | .ret => (nz [4])), [(0, qo5), (1, qo1), (7, qo1), (8, qo1)], [], [⟨.ret, [(4, qo1)], []⟩, ⟨(.exit 0), [], []⟩], [], []⟩
def zds : (List Int × Int × Int × Int) → T ((List Int × Int × Int × Int) ⊕ (Int ⊕ Unit)) := fun (s, v, t7, t8) =>(.test (decide (t8 < t7)) (.test (decide ((0 ≤ t8) ∧ (t8 < (s.length : Int)))) (.sub (s[(Int.toNat t8)]?) fun z0 =>(.test (v == z0) (.ret (Sum.inr (Sum.inl t8))) (.ret (Sum.inl (s, (v, (t7, (w64 (t8 + 1))))))))) .fail) (.ret (Sum.inr (Sum.inr ()))))
def za3h (v) := zav (fun v => (zds v).run) v
def zak1 : List FO := [⟨[(.one (.si .i64))], []⟩]
def za9h : (List Int × Int) → T Int := fun (s, v) =>(.sub (za3h (s, (v, ((s.length : Int), (0 : Int))))) fun z0 =>(.test (Sum.isLeft z0) (.sub (Sum.getLeft? z0) fun z1 =>(.ret z1)) (.sub (Sum.getRight? z0) fun z2 =>(.ret (-1)))))
def F54 (v) := (za9h v).run
def za9g : TEnv := E0
theorem zakz : (za9g).OK := E0ok
def z9e : Nat → Option zal := fun id => if id = 2 then some (LSh.told zq8 0 (zds)) else none
theorem zak0 : zan Tryz.prog 0 (zad (zac zabd) [0]) (LSh.told zq8 0 (zds)) :=
 zak (E := za9g) (zakz) (told := z9e) (l := zq8) (step := zds) (zab (ls := []) (by kernel_rfl) trivial) (by kernel_rfl) (fun v => by kernel_rfl)
theorem zbgr : FOK Tryz.prog zbds zak2 zak1 F54 :=
 zao (E := za9g) (zakz) (told := z9e) (fl := []) (c := zac zabd) (s := zak2) (l := zak1) (tree := za9h) zazi (by kernel_rfl) (by kernel_rfl) (by kernel_rfl) (zab (ls := [zad (zac zabd) [0]]) (by kernel_rfl) ⟨.inr ⟨_, by kernel_rfl, zak0⟩, trivial⟩) (fun v => by kernel_rfl)
theorem za3i (s : List Int) (v : Int) (hl : s.length < 4611686018427387904) : F54 (s, v) = some (idxI (fun x => v == x) s) := by
 have h := zfr (step := fun v => (zds v).run) (xs := s) (fun x => v == x) (fun k => (s, (v, ((s.length : Int), (k : Int))))) (fun k => .inl (k : Int)) (.inr ())
  (fun k x hx => by
   have hlt := zai hx
   have h1 : (k : Int) < (s.length : Int) := by omega
   have h2 : (0 : Int) ≤ k ∧ (k : Int) < (s.length : Int) := by omega
   simp only [zds, T.run, qe, hx, qa, h1, h2, decide_true, if_true, and_self]
   rw [zae (z := (k : Int) + 1) (by omega) (by omega)]
   cases hv : (v == x) <;> simp [hv])
  (by simp [zds, T.run])
 rw [show ((0 : Nat) : Int) = 0 from rfl] at h
 simp only [F54, za9h, T.run, za3h]
 rw [h]
 simp only [idxI]
 cases hf : s.findIdx? (fun x => v == x) <;> simp [Sum.isLeft, hf]
def za3e : FSh := ⟨[.one (.rw 0 0), .one (.si .i64), .one (.si .i64)], [.row 0 (.int .i64)]⟩
def za3d : List FO := [⟨[.one (.rw 0 0)], [.row 0 (.int .i64)]⟩]
def F44 (v : (Unit × Int × Int) × List Int) : Option (Unit × List Int) := if 0 ≤ v.1.2.1 ∧ v.1.2.1 < v.1.2.2 ∧ v.1.2.2 ≤ (v.2.length : Int) ∧ v.2.length ≤ 4611686018427387904 then some ((), v.2.take v.1.2.1.toNat ++ v.2.drop v.1.2.2.toNat) else none
def zakc : Shelf.Ren := ⟨fun _ => zate, fun t => if t = 0 then 0 else if t = 3 then 3 else if t = 4 then 4 else if t = 22 then 24 else 3, fun x => x⟩
theorem za8v : SlLaysE0.n45 Tryz.prog zakc :=
 { mixed := by kernel_rfl, f45 := ⟨"slices.Delete[[]int,int]", by kernel_rfl, by kernel_rfl⟩, t0 := by kernel_rfl, a0 := fun w => by kernel_rfl, z0 := fun w => by kernel_rfl, v0 := fun w => by kernel_rfl, t3 := by kernel_rfl, a3 := fun w => by kernel_rfl, z3 := fun w => by kernel_rfl, v3 := fun w => by kernel_rfl, t4 := by kernel_rfl, a4 := fun w => by kernel_rfl, z4 := fun w => by kernel_rfl, v4 := fun w => by kernel_rfl, t22 := by kernel_rfl, a22 := fun w => by kernel_rfl, z22 := fun w => by kernel_rfl, v22 := fun w => by kernel_rfl }
def zawd : TypeInfo := (Tryz.prog.info? 3).get (by kernel_rfl)
theorem zbf9 : FOK Tryz.prog zate za3e za3d F44 :=
 zapq ⟨_, zay8, by kernel_rfl, by kernel_rfl⟩ (ρr := zakc) rfl za8v (fun w => by kernel_rfl) (fun w => by kernel_rfl) (fun w => by kernel_rfl) zawd (by kernel_rfl) (by kernel_rfl)
def za30 : FSh := ⟨[.one (.si .u64)], []⟩
def za3z : List FO := [⟨[.one (.si .i64)], []⟩]
def F79 (x : Int) : Option Int := if 0 ≤ x ∧ x ≤ 18446744073709551615 then some (Lib.bitLen x.toNat : Int) else none
def zamx : Shelf.Ren := ⟨fun k => if k = 125 then za1g else if k = 128 then 142 else 143, fun t => if t = 3 then 3 else if t = 4 then 4 else if t = 5 then 5 else if t = 9 then 9 else if t = 46 then 110 else if t = 51 then 145 else 75, fun x => x⟩
theorem zbau : Lays.n125 Tryz.prog zamx :=
 { mixed := by kernel_rfl, f125 := by kernel_rfl, f128 := by kernel_rfl, f129 := by kernel_rfl, t3 := by kernel_rfl, a3 := fun w => by kernel_rfl, z3 := fun w => by kernel_rfl, v3 := fun w => by kernel_rfl, t4 := by kernel_rfl, a4 := fun w => by kernel_rfl, z4 := fun w => by kernel_rfl, v4 := fun w => by kernel_rfl, t5 := by kernel_rfl, a5 := fun w => by kernel_rfl, z5 := fun w => by kernel_rfl, v5 := fun w => by kernel_rfl, t9 := by kernel_rfl, a9 := fun w => by kernel_rfl, z9 := fun w => by kernel_rfl, v9 := fun w => by kernel_rfl, t46 := by kernel_rfl, a46 := fun w => by kernel_rfl, z46 := fun w => by kernel_rfl, v46 := fun w => by kernel_rfl, t51 := by kernel_rfl, a51 := fun w => by kernel_rfl, z51 := fun w => by kernel_rfl, v51 := fun w => by kernel_rfl, t53 := by kernel_rfl, a53 := fun w => by kernel_rfl, z53 := fun w => by kernel_rfl, v53 := fun w => by kernel_rfl }
theorem zbhw : FOK Tryz.prog za1g za30 za3z F79 :=
 zaed ⟨_, zaz7, by kernel_rfl, by kernel_rfl⟩ (ρr := zamx) rfl zbau
def zam2 : FSh := ⟨[(.one (.si .i64))], []⟩
def zam1 : List FO := [⟨[(.one .sb)], []⟩]
def zbay : Int → T Bool := fun x =>(.ret (x != x))
def F80 (v) := (zbay v).run
def zbhx : TEnv := E0
theorem zbax : (zbhx).OK := E0ok
def zaxf : Nat → Option zal := fun id => none
theorem zbhy : FOK Tryz.prog zbd8 zam2 zam1 F80 :=
 zao (E := zbhx) (zbax) (told := zaxf) (fl := []) (c := zac za5p) (s := zam2) (l := zam1) (tree := zbay) zaz8 (by kernel_rfl) (by kernel_rfl) (by kernel_rfl) (zab (ls := []) (by kernel_rfl) trivial) (fun v => by kernel_rfl)
def zalo : FSh := ⟨[(.one (.si .i64)), (.one (.si .i64))], []⟩
def zaln : List FO := [⟨[(.one (.si .i64))], []⟩]
def za92 : (Int × Int) → T Int := fun (x, y) =>(.sub (F80 x) fun z0 =>(.sub (F80 y) fun z1 =>(.test z0 (.test z1 (.ret (0 : Int)) (.ret (-1))) (.test z1 (.ret (1 : Int)) (.test (decide (x < y)) (.ret (-1)) (.test (decide (x > y)) (.ret (1 : Int)) (.ret (0 : Int))))))))
def F64 (v) := (za92 v).run
def zbg9 : TEnv := (E0.add1 zbd8 zam2 zam1 F80)
theorem za91 : (zbg9).OK := (E0ok.add1 zbhy)
def zawy : Nat → Option zal := fun id => none
theorem zbhb : FOK Tryz.prog zbdz zalo zaln F64 :=
 zao (E := zbg9) (za91) (told := zawy) (fl := []) (c := zac za5k) (s := zalo) (l := zaln) (tree := za92) zazs (by kernel_rfl) (by kernel_rfl) (by kernel_rfl) (zab (ls := []) (by kernel_rfl) trivial) (fun v => by kernel_rfl)
theorem zbha (a b : Int) : F64 (a, b) = some (if a < b then -1 else if b < a then 1 else 0) := by
 have h : ∀ x, F80 x = some false := fun x => by simp [F80, zbay, T.run]
 simp only [F64, za92, T.run, h, qa]
 by_cases h1 : a < b
 ·simp [h1]
 ·by_cases h2 : b < a <;> simp [h1, h2]
def z5g : FSh := ⟨[(.one (.sl (.int .i64) false false))], []⟩
def zmx : LSh := ⟨(fun ex => match ex with | .norm => (nz [3, 6, 7, 8]) | .exit i => if i = 0 then (nz [3]) else [] | .ret => (nz [2])), [(3, qo1), (6, qo5), (7, qo1), (8, qo1)], [], [⟨.ret, [(2, qo1)], []⟩, ⟨(.exit 0), [(3, qo1)], []⟩], [], []⟩
def zcq : (Int × List Int × Int × Int) → T ((Int × List Int × Int × Int) ⊕ (Int ⊕ Int)) := fun (zero, t6, t7, t8) =>(.test (decide (t8 < t7)) (.test (decide ((0 ≤ t8) ∧ (t8 < (t6.length : Int)))) (.sub (t6[(Int.toNat t8)]?) fun z0 =>(.test (z0 != zero) (.ret (Sum.inr (Sum.inl z0))) (.ret (Sum.inl (zero, (t6, (t7, (w64 (t8 + 1))))))))) .fail) (.ret (Sum.inr (Sum.inr zero))))
def zagv (v) := zav (fun v => (zcq v).run) v
def z5f : List FO := [⟨[(.one (.si .i64))], []⟩]
def zagw : List Int → T Int := fun vals =>(.sub (zagv ((0 : Int), (vals, ((vals.length : Int), (0 : Int))))) fun z0 =>(.test (Sum.isLeft z0) (.sub (Sum.getLeft? z0) fun z1 =>(.ret z1)) (.sub (Sum.getRight? z0) fun z2 =>(.ret z2))))
def F111 (v) := (zagw v).run
def zagu : TEnv := E0
theorem z8f : (zagu).OK := E0ok
def z0i : Nat → Option zal := fun id => if id = 3 then some (LSh.told zmx 0 (zcq)) else none
theorem zadj : zan Tryz.prog 0 (zad (zac zy0) [0]) (LSh.told zmx 0 (zcq)) :=
 zak (E := zagu) (z8f) (told := z0i) (l := zmx) (step := zcq) (zab (ls := []) (by kernel_rfl) trivial) (by kernel_rfl) (fun v => by kernel_rfl)
theorem za6t : FOK Tryz.prog zasv z5g z5f F111 :=
 zao (E := zagu) (z8f) (told := z0i) (fl := []) (c := zac zy0) (s := z5g) (l := z5f) (tree := zagw) zaqx (by kernel_rfl) (by kernel_rfl) (by kernel_rfl) (zab (ls := [zad (zac zy0) [0]]) (by kernel_rfl) ⟨.inr ⟨_, by kernel_rfl, zadj⟩, trivial⟩) (fun v => by kernel_rfl)
theorem zavd (a b : Int) : F111 [a, b] = some (if a = 0 then b else a) := by
 simp only [F111, zagw, T.run, zagv]
 rw [zb1]
 simp only [zcq, T.run]
 by_cases ha : a = 0
 ·subst ha
  simp [zae (z := 1)]
  rw [zb1]
  simp only [zcq, T.run]
  by_cases hb : b = 0
  ·subst hb
   simp [zae (z := 2)]
   rw [zb1]
   simp [zcq, T.run]
  ·simp [hb]
 ·simp [ha]
def z86 : FSh := ⟨[(.ag [(.si .i64), (.si .i64)]), (.ag [(.si .i64), (.si .i64)])], []⟩
def z85 : List FO := [⟨[(.one (.si .i64))], []⟩]
def za8m : ((Int × Int) × (Int × Int)) → T Int := fun ((a_0, a_1), (b_0, b_1)) =>(.sub (F64 (a_0, b_0)) fun z0 =>(.sub (F64 (a_1, b_1)) fun z1 =>(.test (decide (2 ≤ (List.length (List.set (List.set (List.replicate 2 (0 : Int)) 0 z0) 1 z1)))) (.sub (F111 (win (List.set (List.set (List.replicate 2 (0 : Int)) 0 z0) 1 z1) 0 2)) fun z2 =>(.ret z2)) .fail)))
def F39 (v) := (za8m v).run
def zbf4 : TEnv := ((E0.add1 zbdz zalo zaln F64).add1 zasv z5g z5f F111)
theorem za8l : (zbf4).OK := ((E0ok.add1 zbhb).add1 za6t)
def zawa : Nat → Option zal := fun id => none
theorem za27 : FOK Tryz.prog zts z86 z85 F39 :=
 zao (E := zbf4) (za8l) (told := zawa) (fl := []) (c := zac za46) (s := z86) (l := z85) (tree := za8m) zay3 (by kernel_rfl) (by kernel_rfl) (by kernel_rfl) (zab (ls := []) (by kernel_rfl) trivial) (fun v => by kernel_rfl)
theorem zaj5 (d e : Dg) : F39 (d, e) = some (cmpD d e) := by
 obtain ⟨a, b⟩ := d
 obtain ⟨c, f⟩ := e
 have h2 : win (List.set (List.set (List.replicate 2 (0 : Int)) 0 (if a < c then -1 else if c < a then 1 else 0)) 1 (if b < f then -1 else if f < b then 1 else 0)) 0 2 = [if a < c then -1 else if c < a then 1 else 0, if b < f then -1 else if f < b then 1 else 0] := rfl
 simp only [F39, za8m, T.run, zbha, qa, h2, zavd]
 simp only [qy, kj, qi, decide_true, if_true]
 congr 1
 unfold cmpD ltD
 simp only [kf]
 split <;> split <;> (try split) <;> (try split) <;> omega
theorem zapi (d e : Dg) : decide (cmpD d e < 0) = ltD d e := by
 unfold cmpD
 cases ltD d e <;> simp
 split <;> omega
theorem zbci (d e : Dg) : decide (cmpD d e ≥ 0) = !ltD d e := by
 unfold cmpD
 cases ltD d e <;> simp
 split <;> omega
def za6f : FSh := ⟨[(.one (.rw 0 0)), (.one (.si .i64)), (.one (.si .i64)), (.one (.fn zts))], [(.row 0 (.pair (.int .i64) (.int .i64)))]⟩
def zw6 : LSh := ⟨(fun ex => match ex with | .norm => (nz [0, 1, 2, 3, 8, 9]) | .exit i => if i = 2 then (nz [0, 1, 2, 3, 8]) else if i = 1 then (nz [0, 1, 2, 3, 8]) else if i = 0 then [] else [] | .ret => []), [(0, qo4), (1, qo1), (2, qo1), (3, (.one (.fn zts))), (8, qo1), (9, qo1)], [(.row 0 (.pair (.int .i64) (.int .i64)))], [⟨(.exit 2), [(0, qo4), (1, qo1), (2, qo1), (3, (.one (.fn zts))), (8, qo1)], [(.row 0 (.pair (.int .i64) (.int .i64)))]⟩], [], []⟩
def zex : ((Unit × Int × Int × Unit × Int × Int) × List (Int × Int)) → T (((Unit × Int × Int × Unit × Int × Int) × List (Int × Int)) ⊕ ((Unit × Int × Int × Unit × Int) × List (Int × Int))) := fun (((), a, b, (), i, j), data) =>(.test (decide (j > a)) (.test (decide ((0 ≤ j) ∧ (j < (data.length : Int)))) (.sub (data[(0 + (Int.toNat j))]?) fun z0 =>(.test (decide ((0 ≤ (w64 (j - 1))) ∧ ((w64 (j - 1)) < (data.length : Int)))) (.sub (data[(0 + (Int.toNat (w64 (j - 1))))]?) fun z1 =>(.sub (F39 ((z0.1, z0.2), (z1.1, z1.2))) fun z2 =>(.test (decide (z2 < 0)) (.test (decide ((0 ≤ (w64 (j - 1))) ∧ ((w64 (j - 1)) < (data.length : Int)))) (.sub (data[(0 + (Int.toNat (w64 (j - 1))))]?) fun z3 =>(.test (decide ((0 ≤ j) ∧ (j < (data.length : Int)))) (.sub (data[(0 + (Int.toNat j))]?) fun z4 =>(.test (decide ((0 ≤ j) ∧ (j < (data.length : Int)))) (.sub (data[(0 + (Int.toNat j))]?) fun z5 =>(.test (decide ((0 ≤ (w64 (j - 1))) ∧ ((w64 (j - 1)) < (data.length : Int)))) (.sub ((List.set data (0 + (Int.toNat j)) (z3.1, z3.2))[(0 + (Int.toNat (w64 (j - 1))))]?) fun z6 =>(.test (decide ((0 = 0) ∧ (data.length = (List.length (List.set (List.set data (0 + (Int.toNat j)) (z3.1, z3.2)) (0 + (Int.toNat (w64 (j - 1)))) (z4.1, z4.2)))))) (.ret (Sum.inl (((), (a, (b, ((), (i, (w64 (j - 1))))))), (List.set (List.set data (0 + (Int.toNat j)) (z3.1, z3.2)) (0 + (Int.toNat (w64 (j - 1)))) (z4.1, z4.2))))) .fail)) .fail)) .fail)) .fail)) .fail) (qz data (.ret (Sum.inr (((), (a, (b, ((), i)))), data))))))) .fail)) .fail) (qz data (.ret (Sum.inr (((), (a, (b, ((), i)))), data)))))
def zau4 (v) := zav (fun v => (zex v).run) v
def zw5 : LSh := ⟨(fun ex => match ex with | .norm => (nz [0, 1, 2, 3, 8]) | .exit i => if i = 0 then [] else [] | .ret => []), [(0, qo4), (1, qo1), (2, qo1), (3, (.one (.fn zts))), (8, qo1)], [(.row 0 (.pair (.int .i64) (.int .i64)))], [⟨(.exit 0), [], [(.row 0 (.pair (.int .i64) (.int .i64)))]⟩], [], []⟩
def zew : ((Unit × Int × Int × Unit × Int) × List (Int × Int)) → T (((Unit × Int × Int × Unit × Int) × List (Int × Int)) ⊕ (Unit × List (Int × Int))) := fun (((), a, b, (), i), data) =>(.test (decide (i < b)) (qz data (.sub (zau4 (((), (a, (b, ((), (i, i))))), data)) fun z0 =>(qz z0.2 (.ret (Sum.inl (((), (z0.1.2.1, (z0.1.2.2.1, ((), (w64 (z0.1.2.2.2.2 + 1)))))), z0.2)))))) (.ret (Sum.inr ((), data))))
def zafx (v) := zav (fun v => (zew v).run) v
def za6e : List FO := [⟨[], [(.row 0 (.pair (.int .i64) (.int .i64)))]⟩]
def F0_t : ((Unit × Int × Int × Unit) × List (Int × Int)) → T (Unit × List (Int × Int)) := fun (((), a, b, ()), data) =>(qz data (.sub (zafx (((), (a, (b, ((), (w64 (a + 1)))))), data)) fun z0 =>(.ret ((), z0.2))))
def F0 (v) := (F0_t v).run
def F0_E : TEnv := (E0.add1 zts z86 z85 F39)
theorem zafw : (F0_E).OK := (E0ok.add1 za27)
def z4z : Nat → Option zal := fun id => if id = 4 then some (LSh.told zw6 1 (zex)) else if id = 1 then some (LSh.told zw5 1 (zew)) else none
theorem zau5 : zan Tryz.prog 1 (zad (zac zvx) [0, 0]) (LSh.told zw6 1 (zex)) :=
 zak (E := F0_E) (zafw) (told := z4z) (l := zw6) (step := zex) (zab (ls := []) (by kernel_rfl) trivial) (by kernel_rfl) (fun v => by kernel_rfl)
theorem zau3 : zan Tryz.prog 1 (zad (zac zvx) [0]) (LSh.told zw5 1 (zew)) :=
 zak (E := F0_E) (zafw) (told := z4z) (l := zw5) (step := zew) (zab (ls := [zad (zac zvx) [0, 0]]) (by kernel_rfl) ⟨.inr ⟨_, by kernel_rfl, zau5⟩, trivial⟩) (by kernel_rfl) (fun v => by kernel_rfl)
theorem zbj3 : FOK Tryz.prog za03 za6f za6e F0 :=
 zao (E := F0_E) (zafw) (told := z4z) (fl := []) (c := zac zvx) (s := za6f) (l := za6e) (tree := F0_t) zayh (by kernel_rfl) (by kernel_rfl) (by kernel_rfl) (zab (ls := [zad (zac zvx) [0]]) (by kernel_rfl) ⟨.inr ⟨_, by kernel_rfl, zau3⟩, trivial⟩) (fun v => by kernel_rfl)
theorem zafy (b i : Int) : ∀ (j : Nat) (l : List Dg), j < l.length → l.length < 1000000 →
  zau4 (((), ((0 : Int), (b, ((), (i, (j : Int)))))), l) = some (((), ((0 : Int), (b, ((), i)))), zh4 j l)
 | 0, l, hj, hl => by
  simp only [zau4]
  exact zag (by simp [zex, T.run, zh4])
 | j + 1, l, hj, hl => by
  have ih := zafy b i j (zux l j) (by rw [zfv]; omega) (by rw [zfv]; omega)
  simp only [zau4] at ih ⊢
  have w1 : w64 (((j + 1 : Nat) : Int) - 1) = (j : Int) := by rw [zae (by omega) (by omega)]; omega
  have c0 : ((j + 1 : Nat) : Int) > 0 := by omega
  have c1 : (0 : Int) ≤ ((j + 1 : Nat) : Int) ∧ ((j + 1 : Nat) : Int) < (l.length : Int) := by omega
  have c2 : (0 : Int) ≤ (j : Int) ∧ (j : Int) < (l.length : Int) := by omega
  have g1 := zdh hj
  have g2 := zdh (show j < l.length by omega)
  cases hlt : ltD (gD l (j + 1)) (gD l j) with
  | false =>
   have e : zh4 (j + 1) l = l := by unfold zh4; rw [hlt]; rfl
   rw [e]
   refine zag ?_
   simp only [zex, T.run, w1, c0, c1, c2, qe, Nat.zero_add, g1, g2, qa, decide_true, if_true, zaj5, zapi, hlt, and_self]
   simp
  | true =>
   have e : zh4 (j + 1) l = zh4 j (zux l j) := by (conv => lhs; unfold zh4); rw [hlt]; rfl
   rw [e, ← ih]
   refine zah ?_
   have g3 : (l.set (j + 1) (gD l j))[j]? = some (gD l j) := by rw [kh (by omega)]; exact g2
   simp only [zex, T.run, w1, c0, c1, c2, qe, Nat.zero_add, g1, g2, g3, qa, decide_true, if_true, zaj5, zapi, hlt, and_self]
   simp [zux]
theorem z74 : ∀ (n i : Nat) (l : List Dg), i + n = l.length → l.length < 1000000 →
  zafx (((), ((0 : Int), ((l.length : Int), ((), (i : Int))))), l) = some ((), ztm n i l)
 | 0, i, l, hi, hl => by
  simp only [zafx]
  refine zag ?_
  have : ¬ ((i : Int) < (l.length : Int)) := by omega
  simp [zew, T.run, this, ztm]
 | n + 1, i, l, hi, hl => by
  have ih := z74 n (i + 1) (zh4 i l) (by rw [zeh]; omega) (by rw [zeh]; omega)
  rw [zeh] at ih
  simp only [zafx] at ih ⊢
  show _ = some ((), ztm n (i + 1) (zh4 i l))
  rw [← ih]
  refine zah ?_
  have c0 : (i : Int) < (l.length : Int) := by omega
  have w1 : w64 ((i : Int) + 1) = ((i + 1 : Nat) : Int) := by rw [zae (by omega) (by omega)]; omega
  simp only [zew, T.run, c0, decide_true, if_true, zafy _ _ i l (by omega) hl, qa, w1, and_self]
def za8o : FSh := ⟨[(.one (.rw 0 0)), (.one (.si .i64)), (.one (.si .i64)), (.one (.si .i64)), (.one (.fn zts))], [(.row 0 (.pair (.int .i64) (.int .i64)))]⟩
def zx1 : LSh := ⟨(fun ex => match ex with | .norm => (nz [0, 1, 2, 3, 4, 10, 11]) | .exit i => if i = 0 then [] else [] | .ret => []), [(0, qo4), (1, qo1), (2, qo1), (3, qo1), (4, (.one (.fn zts))), (10, qo2), (11, qo2)], [(.row 0 (.pair (.int .i64) (.int .i64)))], [⟨.ret, [], [(.row 0 (.pair (.int .i64) (.int .i64)))]⟩], [], []⟩
def zg5 : ((Unit × Int × Int × Int × Unit × Bool × Bool) × List (Int × Int)) → T (((Unit × Int × Int × Int × Unit × Bool × Bool) × List (Int × Int)) ⊕ (Unit × List (Int × Int))) := fun (((), a, b, limit, (), wasBalanced, wasPartitioned), data) =>(.test (decide ((w64 (b - a)) ≤ 12)) (qz data (.sub (F0 (((), (a, (b, ()))), data)) fun z0 =>(.ret (Sum.inr ((), z0.2))))) (.test (limit == 0) .fail (.test (! wasBalanced) .fail .fail)))
def zbf5 (v) := zav (fun v => (zg5 v).run) v
def za8n : List FO := [⟨[], [(.row 0 (.pair (.int .i64) (.int .i64)))]⟩]
def F3_t : ((Unit × Int × Int × Int × Unit) × List (Int × Int)) → T (Unit × List (Int × Int)) := fun (((), a, b, limit, ()), data) =>(qz data (.sub (zbf5 (((), (a, (b, (limit, ((), (true, true)))))), data)) fun z0 =>(.ret ((), z0.2))))
def F3 (v) := (F3_t v).run
def F3_E : TEnv := (E0.add1 za03 za6f za6e F0)
theorem za28 : (F3_E).OK := (E0ok.add1 zbj3)
def zaj6 : Nat → Option zal := fun id => if id = 2 then some (LSh.told zx1 1 (zg5)) else none
theorem zawb : zan Tryz.prog 1 (zad (zac zaa2) [0]) (LSh.told zx1 1 (zg5)) :=
 zak (E := F3_E) (za28) (told := zaj6) (l := zx1) (step := zg5) (zab (ls := []) (by kernel_rfl) trivial) (by kernel_rfl) (fun v => by kernel_rfl)
theorem zbj6 : FOK Tryz.prog za04 za8o za8n F3 :=
 zao (E := F3_E) (za28) (told := zaj6) (fl := []) (c := zac zaa2) (s := za8o) (l := za8n) (tree := F3_t) zayi (by kernel_rfl) (by kernel_rfl) (by kernel_rfl) (zab (ls := [zad (zac zaa2) [0]]) (by kernel_rfl) ⟨.inr ⟨_, by kernel_rfl, zawb⟩, trivial⟩) (fun v => by kernel_rfl)
end Go.Proofs.W
