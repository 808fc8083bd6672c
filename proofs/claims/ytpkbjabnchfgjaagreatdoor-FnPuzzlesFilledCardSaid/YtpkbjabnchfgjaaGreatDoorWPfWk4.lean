import Derived.Test.YtpkbjabnchfgjaaGreatDoorWPfWk3
noncomputable section
set_option linter.unusedVariables false
set_option linter.unusedSimpArgs false
set_option maxRecDepth 100000
set_option maxHeartbeats 4000000
namespace Go.Proofs.W
open Go Go.Gm Go.Proofs
open Go.RowKit Go.Shelf
def zbbk : FSh := ⟨[(.one (.rw 0 0)), (.one (.fn zts))], [(.row 0 (.pair (.int .i64) (.int .i64)))]⟩
def zbbj : List FO := [⟨[], [(.row 0 (.pair (.int .i64) (.int .i64)))]⟩]
def F8_t : ((Unit × Unit) × List (Int × Int)) → T (Unit × List (Int × Int)) := fun (((), ()), x) =>(.sub (F79 (wu64 (x.length : Int))) fun z0 =>(qz x (.sub (F3 (((), ((0 : Int), ((x.length : Int), (z0, ())))), x)) fun z1 =>(.ret ((), z1.2)))))
def F8 (v) := (F8_t v).run
def F8_E : TEnv := ((E0.add1 za1g za30 za3z F79).add1 za04 za8o za8n F3)
theorem zbig : (F8_E).OK := ((E0ok.add1 zbhw).add1 zbj6)
def zbbl : Nat → Option zal := fun id => none
theorem zbkf : FOK Tryz.prog za05 zbbk zbbj F8 :=
 zao (E := F8_E) (zbig) (told := zbbl) (fl := []) (c := zac za4x) (s := zbbk) (l := zbbj) (tree := F8_t) zayl (by kernel_rfl) (by kernel_rfl) (by kernel_rfl) (zab (ls := []) (by kernel_rfl) trivial) (fun v => by kernel_rfl)
theorem zbke (l : List Dg) (hl : l.length ≤ 12) : F8 (((), ()), l) = some ((), zha l) := by
 have hw : wu64 (l.length : Int) = (l.length : Int) := IntWalk.u64_in _ ⟨by omega, by omega⟩
 have hz : F79 (wu64 (l.length : Int)) = some (Lib.bitLen l.length : Int) := by
  rw [hw]; unfold F79; rw [if_pos ⟨by omega, by omega⟩, qe]
 have w0 : w64 ((l.length : Int) - 0) = (l.length : Int) := by rw [zae (by omega) (by omega)]; omega
 have w1 : w64 ((0 : Int) + 1) = ((1 : Nat) : Int) := by rw [zae (by omega) (by omega)]; rfl
 have c0 : (l.length : Int) ≤ 12 := by omega
 have hins : F0 (((), ((0 : Int), ((l.length : Int), ()))), l) = some ((), zha l) := by
  simp only [F0, F0_t, T.run, w1]
  by_cases h0 : l.length = 0
  ·have : l = [] := ks h0
   subst this
   simp only [zafx]
   rw [zag (o := ((), []))]
   ·simp [zha]
   ·simp [zew, T.run]
  ·rw [z74 (l.length - 1) 1 l (by omega) (by omega), zasd]
   simp
 simp only [F8, F8_t, T.run, hz, qa, F3, F3_t, zbf5]
 rw [zag (o := ((), zha l))]
 ·simp
 ·simp only [zg5, T.run, w0, c0, decide_true, if_true, hins, qa]
  simp
def zak6 : FSh := ⟨[(.one (.sl (.int .i64) false false)), (.one (.sl (.int .i64) false false))], []⟩
def zq9 : LSh := ⟨(fun ex => match ex with | .norm => (nz [0, 1, 12, 13]) | .exit i => if i = 0 then [] else [] | .ret => (nz [4])), [(0, qo5), (1, qo5), (12, qo1), (13, qo1)], [], [⟨.ret, [(4, qo2)], []⟩, ⟨(.exit 0), [], []⟩], [], []⟩
def zdt : (List Int × List Int × Int × Int) → T ((List Int × List Int × Int × Int) ⊕ (Bool ⊕ Unit)) := fun (s1, s2, t12, t13) =>(.test (decide (t13 < t12)) (.test (decide ((0 ≤ t13) ∧ (t13 < (s1.length : Int)))) (.sub (s1[(Int.toNat t13)]?) fun z0 =>(.test (decide ((0 ≤ t13) ∧ (t13 < (s2.length : Int)))) (.sub (s2[(Int.toNat t13)]?) fun z1 =>(.test (z0 != z1) (.ret (Sum.inr (Sum.inl false))) (.ret (Sum.inl (s1, (s2, (t12, (w64 (t13 + 1))))))))) .fail)) .fail) (.ret (Sum.inr (Sum.inr ()))))
def za3j (v) := zav (fun v => (zdt v).run) v
def zak5 : List FO := [⟨[(.one .sb)], []⟩]
def za9j : (List Int × List Int) → T Bool := fun (s1, s2) =>(.test ((s1.length : Int) != (s2.length : Int)) (.ret false) (.sub (za3j (s1, (s2, ((s1.length : Int), (0 : Int))))) fun z0 =>(.test (Sum.isLeft z0) (.sub (Sum.getLeft? z0) fun z1 =>(.ret z1)) (.sub (Sum.getRight? z0) fun z2 =>(.ret true)))))
def F55 (v) := (za9j v).run
def za9i : TEnv := E0
theorem zak3 : (za9i).OK := E0ok
def z9f : Nat → Option zal := fun id => if id = 4 then some (LSh.told zq9 0 (zdt)) else none
theorem zak4 : zan Tryz.prog 0 (zad (zac zabe) [0]) (LSh.told zq9 0 (zdt)) :=
 zak (E := za9i) (zak3) (told := z9f) (l := zq9) (step := zdt) (zab (ls := []) (by kernel_rfl) trivial) (by kernel_rfl) (fun v => by kernel_rfl)
theorem zbgs : FOK Tryz.prog zbdt zak6 zak5 F55 :=
 zao (E := za9i) (zak3) (told := z9f) (fl := []) (c := zac zabe) (s := zak6) (l := zak5) (tree := za9j) zazj (by kernel_rfl) (by kernel_rfl) (by kernel_rfl) (zab (ls := [zad (zac zabe) [0]]) (by kernel_rfl) ⟨.inr ⟨_, by kernel_rfl, zak4⟩, trivial⟩) (fun v => by kernel_rfl)
theorem za3k (a b : List Int) (hl : a.length < 4611686018427387904) : F55 (a, b) = some (decide (a = b)) := by
 simp only [F55, za9j, T.run]
 by_cases he : a.length = b.length
 ·have h := zjn (step := fun v => (zdt v).run) (xs := a.zip b) (fun p => p.1 != p.2) (fun k => (a, (b, ((a.length : Int), (k : Int))))) (.inl false) (.inr ())
   (fun k x hx => by
    obtain ⟨x1, x2⟩ := x
    rw [List.getElem?_zip_eq_some] at hx
    obtain ⟨h1, h2⟩ := hx
    simp only at h1 h2
    have hk := zai h1
    have hk2 := zai h2
    have c0 : (k : Int) < (a.length : Int) := by omega
    have c1 : (0 : Int) ≤ (k : Int) ∧ (k : Int) < (a.length : Int) := by omega
    have c2 : (0 : Int) ≤ (k : Int) ∧ (k : Int) < (b.length : Int) := by omega
    have w1 : w64 ((k : Int) + 1) = ((k + 1 : Nat) : Int) := by rw [zae (by omega) (by omega)]; omega
    simp only [zdt, T.run, c0, c1, c2, decide_true, if_true, and_self, qe, h1, h2, qa, w1]
    cases x1 != x2 <;> simp)
   (by simp [zdt, T.run, he])
  simp only [ka] at h
  rw [zot a b he] at h
  have hne : ((a.length : Int) != (b.length : Int)) = false := by simp [he]
  simp only [za3j, h, hne]
  by_cases hab : a = b <;> simp [hab]
 ·have : a ≠ b := fun e => he (by rw [e])
  have hne : ((a.length : Int) != (b.length : Int)) = true := by simp; omega
  simp [hne, this]
def zaj2 : FSh := ⟨[(.ag [(.si .i64), (.si .i64)]), (.one (.pf 0 0 0))], [(.rcd 0 [(.si .i64), (.si .i64)])]⟩
def zaj1 : List FO := [⟨[(.one .sb)], [(.rcd 0 [(.si .i64), (.si .i64)])]⟩]
def za8i : (((Int × Int) × Unit) × (Int × Int)) → T (Bool × (Int × Int)) := fun (((e_0, e_1), ()), (t1_0, t1_1)) =>(.sub (F115 ((t1_0, t1_1), (e_0, e_1))) fun z0 =>(.ret (z0, (t1_0, t1_1))))
def F37 (v) := (za8i v).run
def zbf0 : TEnv := (E0.add1 zab0 zxg zxf F115)
theorem za8h : (zbf0).OK := (E0ok.add1 zag4)
def zav8 : Nat → Option zal := fun id => none
theorem zbf1 : FOK Tryz.prog zaez zaj2 zaj1 F37 :=
 zao (E := zbf0) (za8h) (told := zav8) (fl := []) (c := zac za44) (s := zaj2) (l := zaj1) (tree := za8i) zay1 (by kernel_rfl) (by kernel_rfl) (by kernel_rfl) (zab (ls := []) (by kernel_rfl) trivial) (fun v => by kernel_rfl)
def za9t : FSh := ⟨[(.one (.sl (.pair (.int .i64) (.int .i64)) false false)), (.clo zaez [(.one (.pf 0 0 0))])], [(.rcd 0 [(.si .i64), (.si .i64)])]⟩
def zx3 : LSh := ⟨(fun ex => match ex with | .norm => (nz [0, 1, 7, 8]) | .exit i => if i = 0 then [] else [] | .ret => (nz [4])), [(0, (.one (.sl (.pair (.int .i64) (.int .i64)) false false))), (1, (.clo zaez [(.one (.pf 0 0 0))])), (7, qo1), (8, qo1)], [(.rcd 0 [(.si .i64), (.si .i64)])], [⟨.ret, [(4, qo1)], [(.rcd 0 [(.si .i64), (.si .i64)])]⟩, ⟨(.exit 0), [], [(.rcd 0 [(.si .i64), (.si .i64)])]⟩], [], []⟩
def ze0 : ((List (Int × Int) × Unit × Int × Int) × (Int × Int)) → T (((List (Int × Int) × Unit × Int × Int) × (Int × Int)) ⊕ ((Int × (Int × Int)) ⊕ (Unit × (Int × Int)))) := fun ((s, (), t7, t8), (r0_0, r0_1)) =>(.test (decide (t8 < t7)) (.test (decide ((0 ≤ t8) ∧ (t8 < (s.length : Int)))) (.sub (s[(Int.toNat t8)]?) fun z0 =>(.sub (F37 (((z0.1, z0.2), ()), (r0_0, r0_1))) fun z1 =>(.test z1.1 (.ret (Sum.inr (Sum.inl (t8, (z1.2.1, z1.2.2))))) (.ret (Sum.inl ((s, ((), (t7, (w64 (t8 + 1))))), (z1.2.1, z1.2.2))))))) .fail) (.ret (Sum.inr (Sum.inr ((), (r0_0, r0_1))))))
def zbg0 (v) := zav (fun v => (ze0 v).run) v
def za9s : List FO := [⟨[(.one (.si .i64))], [(.rcd 0 [(.si .i64), (.si .i64)])]⟩]
def F5_t : ((List (Int × Int) × Unit) × (Int × Int)) → T (Int × (Int × Int)) := fun ((s, ()), (r0_0, r0_1)) =>(.sub (zbg0 ((s, ((), ((s.length : Int), (0 : Int)))), (r0_0, r0_1))) fun z0 =>(.test (Sum.isLeft z0) (.sub (Sum.getLeft? z0) fun z1 =>(.ret (z1.1, (z1.2.1, z1.2.2)))) (.sub (Sum.getRight? z0) fun z2 =>(.ret ((-1), (z2.2.1, z2.2.2))))))
def F5 (v) := (F5_t v).run
def F5_E : TEnv := (E0.add1 zaez zaj2 zaj1 F37)
theorem za3n : (F5_E).OK := (E0ok.add1 zbf1)
def zald : Nat → Option zal := fun id => if id = 2 then some (LSh.told zx3 1 (ze0)) else none
theorem zawt : zan Tryz.prog 1 (zad (zac zj6) [0]) (LSh.told zx3 1 (ze0)) :=
 zak (E := F5_E) (za3n) (told := zald) (l := zx3) (step := ze0) (zab (ls := []) (by kernel_rfl) trivial) (by kernel_rfl) (fun v => by kernel_rfl)
theorem zbj9 : FOK Tryz.prog z7o za9t za9s F5 :=
 zao (E := F5_E) (za3n) (told := zald) (fl := []) (c := zac zj6) (s := za9t) (l := za9s) (tree := F5_t) zza (by kernel_rfl) (by kernel_rfl) (by kernel_rfl) (zab (ls := [zad (zac zj6) [0]]) (by kernel_rfl) ⟨.inr ⟨_, by kernel_rfl, zawt⟩, trivial⟩) (fun v => by kernel_rfl)
def za87 : FSh := ⟨[(.one (.sl (.pair (.int .i64) (.int .i64)) false false)), (.clo zaez [(.one (.pf 0 0 0))])], [(.rcd 0 [(.si .i64), (.si .i64)])]⟩
def za86 : List FO := [⟨[(.one .sb)], [(.rcd 0 [(.si .i64), (.si .i64)])]⟩]
def F4_t : ((List (Int × Int) × Unit) × (Int × Int)) → T (Bool × (Int × Int)) := fun ((s, ()), (r0_0, r0_1)) =>(.sub (F5 ((s, ()), (r0_0, r0_1))) fun z0 =>(.ret ((decide (z0.1 ≥ 0)), (z0.2.1, z0.2.2))))
def F4 (v) := (F4_t v).run
def F4_E : TEnv := (E0.add1 z7o za9t za9s F5)
theorem zbgj : (F4_E).OK := (E0ok.add1 zbj9)
def za88 : Nat → Option zal := fun id => none
theorem zbj8 : FOK Tryz.prog zata za87 za86 F4 :=
 zao (E := F4_E) (zbgj) (told := za88) (fl := []) (c := zac zaqm) (s := za87) (l := za86) (tree := F4_t) zabn (by kernel_rfl) (by kernel_rfl) (by kernel_rfl) (zab (ls := []) (by kernel_rfl) trivial) (fun v => by kernel_rfl)
theorem zbj7 (s : List Dg) (d : Dg) (hl : s.length < 4611686018427387904) : F4 ((s, ()), d) = some (s.any (zbc d), d) := by
 obtain ⟨a, b⟩ := d
 have hc : ∀ e : Dg, F37 ((e, ()), (a, b)) = some (zbc (a, b) e, (a, b)) := by
  intro e
  obtain ⟨e0, e1⟩ := e
  simp [F37, za8i, T.run, zag3]
 have h := zfr (step := fun v => (ze0 v).run) (xs := s) (zbc (a, b)) (fun k => ((s, ((), ((s.length : Int), (k : Int)))), (a, b))) (fun k => .inl ((k : Int), (a, b))) (.inr ((), (a, b)))
  (fun k x hx => by
   have hlt := zai hx
   have h1 : (k : Int) < (s.length : Int) := by omega
   have h2 : (0 : Int) ≤ k ∧ (k : Int) < (s.length : Int) := by omega
   simp only [ze0, T.run, qe, hx, qa, h1, h2, decide_true, if_true, and_self, hc]
   rw [zae (z := (k : Int) + 1) (by omega) (by omega)]
   cases hv : zbc (a, b) x <;> simp)
  (by simp [ze0, T.run])
 rw [show ((0 : Nat) : Int) = 0 from rfl] at h
 have hi : F5 ((s, ()), (a, b)) = some (idxI (zbc (a, b)) s, (a, b)) := by
  simp only [F5, F5_t, T.run, zbg0]
  rw [h]
  simp only [idxI]
  cases hf : s.findIdx? (zbc (a, b)) <;> simp [Sum.isLeft]
 simp only [F4, F4_t, T.run, hi, qa, zzg]
def zakg : FSh := ⟨[(.one (.si .i64)), (.one (.sl (.pair (.int .i64) (.int .i64)) false false))], []⟩
def zq6 : LSh := ⟨(fun ex => match ex with | .norm => (nz [0, 1, 17, 18, 19]) | .exit i => if i = 0 then [] else [] | .ret => (nz [4])), [(0, qo1), (1, (.one (.sl (.pair (.int .i64) (.int .i64)) false false))), (17, (.one (.sl (.pair (.int .i64) (.int .i64)) false false))), (18, qo1), (19, qo1)], [], [⟨.ret, [(4, qo2)], []⟩, ⟨(.exit 0), [], []⟩], [], []⟩
def zdr : (Int × List (Int × Int) × List (Int × Int) × Int × Int) → T ((Int × List (Int × Int) × List (Int × Int) × Int × Int) ⊕ (Bool ⊕ Unit)) := fun (n, ds, t17, t18, t19) =>(.test (decide (t19 < t18)) (.test (decide ((0 ≤ t19) ∧ (t19 < (t17.length : Int)))) (.sub (t17[(Int.toNat t19)]?) fun z0 =>(.sub (F90 (n, (z0.1, z0.2))) fun z1 =>(.test (! z1) (.ret (Sum.inr (Sum.inl false))) (.test (decide (t19 > 0)) (.test (decide ((0 ≤ (w64 (t19 - 1))) ∧ ((w64 (t19 - 1)) < (ds.length : Int)))) (.sub (ds[(Int.toNat (w64 (t19 - 1)))]?) fun z2 =>(.sub (F39 ((z2.1, z2.2), (z0.1, z0.2))) fun z3 =>(.test (decide (z3 ≥ 0)) (.ret (Sum.inr (Sum.inl false))) (.test (decide (0 ≤ t19)) (.test (decide ((0 ≤ (Int.toNat t19)) ∧ ((Int.toNat t19) ≤ ds.length))) (.sub (F4 (((win ds 0 ((Int.toNat t19) - 0)), ()), (z0.1, z0.2))) fun z4 =>(.test z4.1 (.ret (Sum.inr (Sum.inl false))) (.ret (Sum.inl (n, (ds, (t17, (t18, (w64 (t19 + 1)))))))))) .fail) .fail)))) .fail) (.test (decide (0 ≤ t19)) (.test (decide ((0 ≤ (Int.toNat t19)) ∧ ((Int.toNat t19) ≤ ds.length))) (.sub (F4 (((win ds 0 ((Int.toNat t19) - 0)), ()), (z0.1, z0.2))) fun z5 =>(.test z5.1 (.ret (Sum.inr (Sum.inl false))) (.ret (Sum.inl (n, (ds, (t17, (t18, (w64 (t19 + 1)))))))))) .fail) .fail))))) .fail) (.ret (Sum.inr (Sum.inr ()))))
def za3f (v) := zav (fun v => (zdr v).run) v
def zakf : List FO := [⟨[(.one .sb)], []⟩]
def za8x : (Int × List (Int × Int)) → T Bool := fun (n, ds) =>(.sub (F105 n) fun z0 =>(.test (! z0) (.ret false) (.test ((ds.length : Int) != (w64 (n - 3))) (.ret false) (.sub (za3f (n, (ds, (ds, ((ds.length : Int), (0 : Int)))))) fun z1 =>(.test (Sum.isLeft z1) (.sub (Sum.getLeft? z1) fun z2 =>(.ret z2)) (.sub (Sum.getRight? z1) fun z3 =>(.ret true)))))))
def F45 (v) := (za8x v).run
def za8w : TEnv := ((((E0.add1 zaby zxb zxa F105).add1 za1l zaac zaab F90).add1 zts z86 z85 F39).add1 zata za87 za86 F4)
theorem zakd : (za8w).OK := ((((E0ok.add1 zagb).add1 za38).add1 za27).add1 zbj8)
def z89 : Nat → Option zal := fun id => if id = 4 then some (LSh.told zq6 0 (zdr)) else none
theorem zake : zan Tryz.prog 0 (zad (zac zabc) [0]) (LSh.told zq6 0 (zdr)) :=
 zak (E := za8w) (zakd) (told := z89) (l := zq6) (step := zdr) (zab (ls := []) (by kernel_rfl) trivial) (by kernel_rfl) (fun v => by kernel_rfl)
theorem zbgb : FOK Tryz.prog zbdl zakg zakf F45 :=
 zao (E := za8w) (zakd) (told := z89) (fl := []) (c := zac zabc) (s := zakg) (l := zakf) (tree := za8x) zay9 (by kernel_rfl) (by kernel_rfl) (by kernel_rfl) (zab (ls := [zad (zac zabc) [0]]) (by kernel_rfl) ⟨.inr ⟨_, by kernel_rfl, zake⟩, trivial⟩) (fun v => by kernel_rfl)
theorem zbga (n : Int) (ds : List Dg) (hl : ds.length < 4611686018427387904) : F45 (n, ds) = some (z7l n ds) := by
 simp only [F45, za8x, T.run, F105, z79, zkd, qa, z7l]
 cases hn : inB 3 12 n with
 | false => simp
 | true =>
  rw [zay] at hn
  rw [zae (z := n - 3) (by omega) (by omega)]
  by_cases he : (ds.length : Int) = n - 3
  ·have h := zjn (step := fun v => (zdr v).run) (xs := List.range ds.length) (badT n ds) (fun k => (n, (ds, (ds, ((ds.length : Int), (k : Int)))))) (.inl false) (.inr ())
    (fun k x hx => by
     obtain ⟨hk, e⟩ := qh.1 hx
     simp only [List.getElem_range] at e
     subst e
     rw [List.length_range] at hk
     have g0 := zdh hk
     have c0 : (k : Int) < (ds.length : Int) := by omega
     have c1 : (0 : Int) ≤ (k : Int) ∧ (k : Int) < (ds.length : Int) := by omega
     have w1 : w64 ((k : Int) + 1) = ((k + 1 : Nat) : Int) := by rw [zae (by omega) (by omega)]; omega
     have c2 : 0 ≤ k ∧ k ≤ ds.length := by omega
     have c3 : (0 : Int) ≤ (k : Int) := by omega
     have tw : win ds 0 (k - 0) = ds.take k := zfm _ _
     have hlt : (ds.take k).length < 4611686018427387904 := by simp; omega
     simp only [zdr, T.run, c0, c1, c2, c3, decide_true, if_true, and_self, qe, g0, qa, za37 n (gD ds k) (by omega) (by omega), tw, zbj7 _ (gD ds k) hlt, w1, badT]
     rcases Bool.eq_false_or_eq_true (inDg n (gD ds k)) with hd | hd
     rotate_left
     ·simp [hd]
     ·simp only [hd]
      by_cases hk0 : 0 < k
      ·have w2 : w64 ((k : Int) - 1) = ((k - 1 : Nat) : Int) := by rw [zae (by omega) (by omega)]; omega
       have c4 : (0 : Int) ≤ ((k - 1 : Nat) : Int) ∧ ((k - 1 : Nat) : Int) < (ds.length : Int) := by omega
       have g1 := zdh (show k - 1 < ds.length by omega)
       have c5 : (k : Int) > 0 := by omega
       simp only [w2, c4, c5, decide_true, if_true, and_self, qe, g1, qa, zaj5, zbci, hk0]
       cases ltD (gD ds (k - 1)) (gD ds k) <;> simp
       cases (ds.take k).any (zbc (gD ds k)) <;> simp
      ·have c5 : ¬ (k : Int) > 0 := by omega
       simp only [c5, decide_false, hk0, if_false]
       cases (ds.take k).any (zbc (gD ds k)) <;> simp)
    (by simp [zdr, T.run])
   rw [show ((0 : Nat) : Int) = 0 from rfl] at h
   have he' : ((ds.length : Int) != n - 3) = false := by simp [he]
   simp only [za3f, h, he', qd he]
   cases (List.range ds.length).any (badT n ds) <;> simp
  ·simp [he]
def z02 : FSh := ⟨[(.one (.sl (.int .i64) false false))], []⟩
def zrc : LSh := ⟨(fun ex => match ex with | .norm => (nz [0, 4, 5, 6, 24, 25]) | .exit i => if i = 0 then (nz [0, 4, 5, 6]) else [] | .ret => (nz [2, 3])), [(0, qo5), (4, qo4), (5, qo9), (6, qo8), (24, qo1), (25, qo1)], [qr1, qr1, (.row 0 (.pair (.int .i64) (.int .i64)))], [⟨(.exit 0), [(0, qo5), (4, qo4), (5, qo9), (6, qo8)], [qr1, qr1, (.row 0 (.pair (.int .i64) (.int .i64)))]⟩], [], []⟩
def ze2 : ((List Int × Unit × Unit × Unit × Int × Int) × (List Int × List Int × List (Int × Int))) → T (((List Int × Unit × Unit × Unit × Int × Int) × (List Int × List Int × List (Int × Int))) ⊕ ((List Int × Unit × Unit × Unit) × (List Int × List Int × List (Int × Int)))) := fun ((list, (), (), (), t24, t25), (left, names, out)) =>(.test (decide (t25 < t24)) (.test (decide (1 ≤ (List.length (List.set (List.replicate 1 (0 : Int)) 0 t25)))) (.test (decide ((0 + names.length) ≤ names.length)) (.test (decide ((2 * ((names.length + (List.length (win (List.set (List.replicate 1 (0 : Int)) 0 t25) 0 1))) * 9)) ≤ 140737488355328)) (qz left (.test (decide ((0 = 0) ∧ ((names.length + (List.length (win (List.set (List.replicate 1 (0 : Int)) 0 t25) 0 1))) = (List.length ((win names 0 names.length) ++ (win (List.set (List.replicate 1 (0 : Int)) 0 t25) 0 1)))))) (qz out (.ret (Sum.inl ((list, ((), ((), ((), (t24, (w64 (t25 + 1))))))), (left, (((win names 0 names.length) ++ (win (List.set (List.replicate 1 (0 : Int)) 0 t25) 0 1)), out)))))) .fail)) .fail) .fail) .fail) (qz left (qz names (qz out (.ret (Sum.inr ((list, ((), ((), ()))), (left, (names, out)))))))))
def z00 (v) := zav (fun v => (ze2 v).run) v
def znl : LSh := ⟨(fun ex => match ex with | .norm => (nz [0, 4, 5, 6, 8]) | .exit i => if i = 2 then (nz [0, 4, 6]) else [] | .ret => (nz [2, 3])), [(0, qo5), (4, qo4), (5, qo9), (6, qo8), (8, qo1)], [qr1, qr1, (.row 0 (.pair (.int .i64) (.int .i64)))], [⟨.ret, [(2, qo4), (3, qo2)], [(.row 0 (.pair (.int .i64) (.int .i64)))]⟩, ⟨(.exit 2), [(0, qo5), (4, qo4), (6, qo9)], [qr1, (.row 0 (.pair (.int .i64) (.int .i64)))]⟩], [], []⟩
def zca : ((List Int × Unit × Unit × Unit × Int) × (List Int × List Int × List (Int × Int))) → T (((List Int × Unit × Unit × Unit × Int) × (List Int × List Int × List (Int × Int))) ⊕ (((Unit × Bool) × List (Int × Int)) ⊕ ((List Int × Unit × Unit) × (List Int × List (Int × Int))))) := fun ((list, (), (), (), n), (left, names, out)) =>(.test (decide (n > 3)) (.test (decide ((0 + left.length) ≤ left.length)) (.sub (F54 ((win left 0 left.length), (1 : Int))) fun z0 =>(.test (decide (z0 < 0)) (.test true (.ret (Sum.inr (Sum.inl (((), false), ([] : List (Int × Int)))))) .fail) (.test (decide (n ≠ 0)) (.test (decide (n ≠ 0)) (.test (decide ((0 ≤ (Int.tmod (w64 ((w64 (z0 + n)) - 1)) n)) ∧ ((Int.tmod (w64 ((w64 (z0 + n)) - 1)) n) < (left.length : Int)))) (.sub (left[(0 + (Int.toNat (Int.tmod (w64 ((w64 (z0 + n)) - 1)) n)))]?) fun z1 =>(.test (decide ((0 ≤ (Int.tmod (w64 ((w64 (z0 + n)) - 1)) n)) ∧ ((Int.tmod (w64 ((w64 (z0 + n)) - 1)) n) < (left.length : Int)))) (.sub (left[(0 + (Int.toNat (Int.tmod (w64 ((w64 (z0 + n)) - 1)) n)))]?) fun z2 =>(.test (decide ((0 ≤ (Int.tmod (w64 (z0 + 1)) n)) ∧ ((Int.tmod (w64 (z0 + 1)) n) < (left.length : Int)))) (.sub ((List.set left (0 + (Int.toNat (Int.tmod (w64 ((w64 (z0 + n)) - 1)) n))) (w64 (z1 - 1)))[(0 + (Int.toNat (Int.tmod (w64 (z0 + 1)) n)))]?) fun z3 =>(.test (decide ((0 ≤ (Int.tmod (w64 (z0 + 1)) n)) ∧ ((Int.tmod (w64 (z0 + 1)) n) < (left.length : Int)))) (.sub ((List.set left (0 + (Int.toNat (Int.tmod (w64 ((w64 (z0 + n)) - 1)) n))) (w64 (z1 - 1)))[(0 + (Int.toNat (Int.tmod (w64 (z0 + 1)) n)))]?) fun z4 =>(.test (decide ((0 ≤ (Int.tmod (w64 ((w64 (z0 + n)) - 1)) n)) ∧ ((Int.tmod (w64 ((w64 (z0 + n)) - 1)) n) < (names.length : Int)))) (.sub (names[(0 + (Int.toNat (Int.tmod (w64 ((w64 (z0 + n)) - 1)) n)))]?) fun z5 =>(.test (decide ((0 ≤ (Int.tmod (w64 (z0 + 1)) n)) ∧ ((Int.tmod (w64 (z0 + 1)) n) < (names.length : Int)))) (.sub (names[(0 + (Int.toNat (Int.tmod (w64 (z0 + 1)) n)))]?) fun z6 =>(.test (decide (1 ≤ (List.length (List.set (List.replicate 1 ((0 : Int), (0 : Int))) 0 ((if (z6 < z5) then z6 else z5), (if (z6 > z5) then z6 else z5)))))) (.test (decide ((0 + out.length) ≤ out.length)) (.test (decide ((2 * ((out.length + (List.length (win (List.set (List.replicate 1 ((0 : Int), (0 : Int))) 0 ((if (z6 < z5) then z6 else z5), (if (z6 > z5) then z6 else z5))) 0 1))) * 17)) ≤ 140737488355328)) (.test (decide ((0 = 0) ∧ (left.length = (List.length (List.set (List.set left (0 + (Int.toNat (Int.tmod (w64 ((w64 (z0 + n)) - 1)) n))) (w64 (z1 - 1))) (0 + (Int.toNat (Int.tmod (w64 (z0 + 1)) n))) (w64 (z3 - 1))))))) (.sub (F44 (((), (z0, (w64 (z0 + 1)))), (List.set (List.set left (0 + (Int.toNat (Int.tmod (w64 ((w64 (z0 + n)) - 1)) n))) (w64 (z1 - 1))) (0 + (Int.toNat (Int.tmod (w64 (z0 + 1)) n))) (w64 (z3 - 1))))) fun z7 =>(qz names (.sub (F44 (((), (z0, (w64 (z0 + 1)))), names)) fun z8 =>(qz z7.2 (qz z8.2 (.test (decide ((0 = 0) ∧ ((out.length + (List.length (win (List.set (List.replicate 1 ((0 : Int), (0 : Int))) 0 ((if (z6 < z5) then z6 else z5), (if (z6 > z5) then z6 else z5))) 0 1))) = (List.length ((win out 0 out.length) ++ (win (List.set (List.replicate 1 ((0 : Int), (0 : Int))) 0 ((if (z6 < z5) then z6 else z5), (if (z6 > z5) then z6 else z5))) 0 1)))))) (.ret (Sum.inl ((list, ((), ((), ((), (w64 (n - 1)))))), (z7.2, (z8.2, ((win out 0 out.length) ++ (win (List.set (List.replicate 1 ((0 : Int), (0 : Int))) 0 ((if (z6 < z5) then z6 else z5), (if (z6 > z5) then z6 else z5))) 0 1))))))) .fail)))))) .fail) .fail) .fail) .fail)) .fail)) .fail)) .fail)) .fail)) .fail)) .fail) .fail) .fail))) .fail) (qz left (qz out (.ret (Sum.inr (Sum.inr ((list, ((), ())), (left, out))))))))
def zrb (v) := zav (fun v => (zca v).run) v
def z01 : List FO := [⟨[(.one (.rw 0 0)), (.one .sb)], [(.row 0 (.pair (.int .i64) (.int .i64)))]⟩]
def za94 : List Int → T ((Unit × Bool) × List (Int × Int)) := fun list =>(.sub (F105 (list.length : Int)) fun z0 =>(.test (! z0) (.test true (.ret (((), false), ([] : List (Int × Int)))) .fail) (.sub (F53 list) fun z1 =>(qz z1.2 (.test (decide ((0 = 0) ∧ (0 = (List.length (List.replicate 0 (0 : Int)))))) (.test (decide ((0 = 0) ∧ (0 = (List.length (List.replicate 0 ((0 : Int), (0 : Int))))))) (.sub (z00 ((list, ((), ((), ((), ((list.length : Int), (0 : Int)))))), (z1.2, ((List.replicate 0 (0 : Int)), (List.replicate 0 ((0 : Int), (0 : Int))))))) fun z2 =>(qz z2.2.1 (qz z2.2.2.1 (qz z2.2.2.2 (.sub (zrb ((z2.1.1, ((), ((), ((), (z2.2.1.length : Int))))), (z2.2.1, (z2.2.2.1, z2.2.2.2)))) fun z3 =>(.test (Sum.isLeft z3) (.sub (Sum.getLeft? z3) fun z4 =>(qz z4.2 (.ret (((), z4.1.2), z4.2)))) (.sub (Sum.getRight? z3) fun z5 =>(qz z5.2.2 (.sub (F8 (((), ()), z5.2.2)) fun z6 =>(.test (decide ((0 + z5.2.1.length) ≤ z5.2.1.length)) (.test true (.sub (F55 ((win z5.2.1 0 z5.2.1.length), (win (List.set (List.set (List.set (List.replicate 3 (0 : Int)) 0 (1 : Int)) 1 (1 : Int)) 2 (1 : Int)) 0 3))) fun z7 =>(.test (! z7) (.test true (.ret (((), false), ([] : List (Int × Int)))) .fail) (.test (decide ((0 + z5.2.2.length) ≤ z6.2.length)) (.sub (F45 ((z5.1.1.length : Int), (win z6.2 0 z5.2.2.length))) fun z8 =>(.test (! z8) (.test true (.ret (((), false), ([] : List (Int × Int)))) .fail) (.test (decide ((0 + z5.2.2.length) ≤ z6.2.length)) (.sub (F110 ((z5.1.1.length : Int), (win z6.2 0 z5.2.2.length))) fun z9 =>(.test (decide ((0 + z9.2.length) ≤ z9.2.length)) (.sub (F55 ((win z9.2 0 z9.2.length), z5.1.1)) fun z10 =>(.test (! z10) (.test true (.ret (((), false), ([] : List (Int × Int)))) .fail) (.test (decide ((0 = 0) ∧ (z5.2.2.length = z6.2.length))) (.ret (((), true), z6.2)) .fail))) .fail)) .fail))) .fail))) .fail) .fail)))))))))) .fail) .fail)))))
def F65 (v) := (za94 v).run
def zawz : TEnv := ((((((((E0.add1 zaby zxb zxa F105).add1 zae0 z9d z9c F53).add1 zbds zak2 zak1 F54).add1 zate za3e za3d F44).add1 za05 zbbk zbbj F8).add1 zbdt zak6 zak5 F55).add1 zbdl zakg zakf F45).add1 zabz zxe zxd F110)
theorem z6q : (zawz).OK := ((((((((E0ok.add1 zagb).add1 zakx).add1 zbgr).add1 zbf9).add1 zbkf).add1 zbgs).add1 zbgb).add1 zags)
def zx4 : Nat → Option zal := fun id => if id = 5 then some (LSh.told zrc 0 (ze2)) else if id = 10 then some (LSh.told znl 0 (zca)) else none
theorem zalp : zan Tryz.prog 0 (zad (zac zvz) [0]) (LSh.told zrc 0 (ze2)) :=
 zak (E := zawz) (z6q) (told := zx4) (l := zrc) (step := ze2) (zab (ls := []) (by kernel_rfl) trivial) (by kernel_rfl) (fun v => by kernel_rfl)
theorem zad3 : zan Tryz.prog 0 (zad (zac zvz) [1]) (LSh.told znl 0 (zca)) :=
 zak (E := zawz) (z6q) (told := zx4) (l := znl) (step := zca) (zab (ls := []) (by kernel_rfl) trivial) (by kernel_rfl) (fun v => by kernel_rfl)
theorem zals : FOK Tryz.prog zatg z02 z01 F65 :=
 zao (E := zawz) (z6q) (told := zx4) (fl := []) (c := zac zvz) (s := z02) (l := z01) (tree := za94) zazt (by kernel_rfl) (by kernel_rfl) (by kernel_rfl) (zab (ls := [zad (zac zvz) [0], zad (zac zvz) [1]]) (by kernel_rfl) ⟨.inr ⟨_, by kernel_rfl, zalp⟩, ⟨.inr ⟨_, by kernel_rfl, zad3⟩, trivial⟩⟩) (fun v => by kernel_rfl)
theorem zalr (l left : List Int) (out : List Dg) (hl : l.length < 1000000) : z00 ((l, ((), ((), ((), ((l.length : Int), (0 : Int)))))), (left, ([], out))) = some ((l, ((), ((), ()))), (left, (zb0 l.length, out))) := by
 have key : ∀ m k, k + m = l.length → z00 ((l, ((), ((), ((), ((l.length : Int), (k : Int)))))), (left, (zb0 k, out))) = some ((l, ((), ((), ()))), (left, (zb0 l.length, out))) := by
  intro m
  induction m with
  | zero =>
   intro k hk
   have : k = l.length := by omega
   subst this
   simp only [z00]
   exact zag (by simp [ze2, T.run])
  | succ m ih =>
   intro k hk
   have ih := ih (k + 1) (by omega)
   simp only [z00] at ih ⊢
   rw [← ih]
   refine zah ?_
   have c0 : (k : Int) < (l.length : Int) := by omega
   have w1 : w64 ((k : Int) + 1) = ((k + 1 : Nat) : Int) := by rw [zae (by omega) (by omega)]; omega
   have hw : win (zb0 k) 0 k = zb0 k := by have := zap (zb0 k); rwa [za5] at this
   have c1 : 2 * ((k + 1) * 9) ≤ 140737488355328 := by omega
   have hs : zb0 k ++ [(k : Int)] = zb0 (k + 1) := (zwd k).symm
   simp only [ze2, T.run, c0, decide_true, if_true, zc9, za5, hw, w1, qk, qq, c1, hs, Nat.zero_add]
   simp [c1]
 simpa [zb0] using key l.length 0 (by omega)
theorem za93 (list left names : List Int) (out : List Dg) (k i : Nat) (hk : k < 100000) (hl : left.length = k + 4) (hn : names.length = k + 4) (ho : out.length < 100000) (he : ear left = some i) :
  (zca ((list, ((), ((), ((), (left.length : Int))))), (left, (names, out)))).run = some (.inl ((list, ((), ((), ((), ((k + 3 : Nat) : Int))))), (cutL left i, (names.eraseIdx i, out ++ [cutD names i])))) := by
 obtain ⟨hi, _⟩ := zf4 he
 obtain ⟨n1, n2, n3, n4, n5, n6⟩ := zgy (by omega : 3 ≤ left.length) hi
 obtain ⟨t1, t2⟩ := zati (by omega : 3 ≤ left.length) (by omega) hi
 have hidx := za3i left 1 (by omega)
 have hii : idxI (fun x => (1 : Int) == x) left = (i : Int) := by unfold idxI; unfold ear at he; rw [he]
 have c0 : (left.length : Int) > 3 := by omega
 have c1 : ¬ ((i : Int) < 0) := by omega
 have c2 : (left.length : Int) ≠ 0 := by omega
 have c3 : (0 : Int) ≤ (nbB left.length i : Int) ∧ (nbB left.length i : Int) < (left.length : Int) := by omega
 have c4 : (0 : Int) ≤ (nbC left.length i : Int) ∧ (nbC left.length i : Int) < (left.length : Int) := by omega
 have c5 : (0 : Int) ≤ (nbB left.length i : Int) ∧ (nbB left.length i : Int) < (names.length : Int) := by omega
 have c6 : (0 : Int) ≤ (nbC left.length i : Int) ∧ (nbC left.length i : Int) < (names.length : Int) := by omega
 have g1 := za8 n1
 have g2 : (left.set (nbB left.length i) (w64 (left.getD (nbB left.length i) 0 - 1)))[nbC left.length i]? = some ((zbg left (nbB left.length i)).getD (nbC left.length i) 0) := za8 (by simpa using n2)
 have g3 := za8 (l := names) (p := nbB left.length i) (by omega)
 have g4 := za8 (l := names) (p := nbC left.length i) (by omega)
 have w1 : w64 ((i : Int) + 1) = ((i + 1 : Nat) : Int) := by rw [zae (by omega) (by omega)]; omega
 rw [w1] at t2
 have w2 : w64 ((left.length : Int) - 1) = ((k + 3 : Nat) : Int) := by rw [zae (by omega) (by omega)]; omega
 have hD : ∀ a b : Int, ((if b < a then b else a), (if b > a then b else a)) = (min a b, max a b) := by
  intro a b
  rw [qr]
  constructor <;> split <;> omega
 have hD' : (min (names.getD (nbB left.length i) 0) (names.getD (nbC left.length i) 0), max (names.getD (nbB left.length i) 0) (names.getD (nbC left.length i) 0)) = cutD names i := by unfold cutD; rw [hl, hn]
 have hd1 : F44 (((), ((i : Int), ((i + 1 : Nat) : Int))), zbg (zbg left (nbB left.length i)) (nbC left.length i)) = some ((), cutL left i) := by
  unfold F44
  rw [if_pos ⟨by simp only []; omega, by simp only []; omega, by simp only [zbu]; omega, by simp only [zbu]; omega⟩]
  simp only [qe, zet]
  rfl
 have hd2 : F44 (((), ((i : Int), ((i + 1 : Nat) : Int))), names) = some ((), names.eraseIdx i) := by
  unfold F44
  rw [if_pos ⟨by simp only []; omega, by simp only []; omega, by simp only []; omega, by simp only []; omega⟩]
  simp only [qe, zet]
 have c7 : 2 * ((out.length + 1) * 17) ≤ 140737488355328 := by omega
 have l1 : left.length = (zbg (zbg left (nbB left.length i)) (nbC left.length i)).length := by rw [zbu, zbu]
 have e1 : left.set (nbB left.length i) (w64 (left.getD (nbB left.length i) 0 - 1)) = zbg left (nbB left.length i) := rfl
 have e2 : (zbg left (nbB left.length i)).set (nbC left.length i) (w64 ((zbg left (nbB left.length i)).getD (nbC left.length i) 0 - 1)) = zbg (zbg left (nbB left.length i)) (nbC left.length i) := rfl
 rw [e1] at g2
 simp only [zca, T.run, c0, decide_true, if_true, Nat.zero_add, qi, zap, hidx, hii, qa, c1, decide_false, qj, if_false, c2, ne_eq, not_false_eq_true, t1, t2, c3, c4, c5, c6, and_self, qe, g1, e1, g2, g3, g4, e2, hD, hD', zc9, w1, w2, hd1, hd2, ← l1]
 simp [c7]
theorem z9l (list : List Int) : ∀ (k : Nat) (left names : List Int) (out : List Dg), k < 1000 → left.length = k + 3 → names.length = k + 3 → out.length + k < 10000 →
  zrb ((list, ((), ((), ((), (left.length : Int))))), (left, (names, out))) = some (match triW k left names with
   | none => .inl (((), false), [])
   | some r => .inr ((list, ((), ())), (r.1, out ++ r.2)))
 | 0, left, names, out, hk, hl, hn, ho => by
  simp only [zrb, triW]
  refine zag ?_
  have c0 : ¬ ((left.length : Int) > 3) := by omega
  simp [zca, T.run, c0]
 | k + 1, left, names, out, hk, hl, hn, ho => by
  cases he : ear left with
  | none =>
   have hidx := za3i left 1 (by omega)
   have hii : idxI (fun x => (1 : Int) == x) left = -1 := by unfold idxI; unfold ear at he; rw [he]
   have c0 : (left.length : Int) > 3 := by omega
   simp only [zrb, triW, he]
   refine zag ?_
   simp only [zca, T.run, c0, decide_true, if_true, Nat.zero_add, qi, zap, hidx, hii, qa]
   simp
  | some i =>
   have st := za93 list left names out k i (by omega) (by omega) (by omega) (by omega) he
   have hlc := za7 (zf4 he).1
   have ih := z9l list k (cutL left i) (names.eraseIdx i) (out ++ [cutD names i]) (by omega) (by omega) (by rw [List.length_eraseIdx, if_pos (by have := (zf4 he).1; omega)]; omega) (by simp; omega)
   rw [show (cutL left i).length = k + 3 by omega] at ih
   simp only [zrb, triW, he] at ih ⊢
   rw [zah st, ih]
   cases triW k (cutL left i) (names.eraseIdx i) with
   | none => rfl
   | some r => simp
theorem zalq (l : List Int) (hl : l.length < 4611686018427387904) : F65 l = some (match trOf l with | some ds => (((), true), ds) | none => (((), false), [])) := by
 simp only [F65, za94, T.run, F105, z79, zkd, qa]
 cases hn : inB 3 12 (l.length : Int) with
 | false => simp [trOf, hn]
 | true =>
  have hn' := zay.1 hn
  have hc : F53 l = some ((), l) := by
   unfold F53
   rw [if_pos]
   exact ⟨by unfold maxLen; omega, by omega⟩
  have h5 := zalr l l [] (by omega)
  have h10 := z9l l (l.length - 3) l (zb0 l.length) [] (by omega) (by omega) (by rw [za5]; omega) (by simp; omega)
  have htri := zbjz (l.length - 3) l (zb0 l.length)
  simp only [Bool.not_true, qj, if_false, hc, qa, List.replicate_zero, qq, true_and, decide_true, if_true, h5, h10]
  unfold trOf
  rw [hn, htri]
  cases hW : triW (l.length - 3) l (zb0 l.length) with
  | none => simp
  | some r =>
   obtain ⟨l3, ds⟩ := r
   obtain ⟨g1, g2⟩ := zac4 _ _ _ _ (by omega) hW
   simp only at g1 g2
   have hs := zbke ds (by omega)
   have hls := zfu ds
   have hw3 : win (List.set (List.set (List.set (List.replicate 3 (0 : Int)) 0 (1 : Int)) 1 (1 : Int)) 2 (1 : Int)) 0 3 = [1, 1, 1] := rfl
   have heq := za3k l3 [1, 1, 1] (by omega)
   have hws : win (zha ds) 0 ds.length = zha ds := by rw [← hls]; exact zap _
   simp only [if_true, Sum.isLeft, Sum.getRight?, qa, qj, if_false, qw, hs, Nat.zero_add, qi, decide_true, zap, hw3, heq, hls, hws, true_and]
   by_cases h3 : l3 = [1, 1, 1]
   ·have hT : tri (l.length - 3) l (zb0 l.length) = some ds := by rw [htri, hW]; simp [h3]
    obtain ⟨q1, q2⟩ := zgd _ _ _ _ (zcc _) (by omega) (by rw [za5]; omega) hT
    have hti := zv6 (n := l.length) ⟨by omega, by omega⟩ (fun m hm => zl6 hm) q2 (by omega)
    have hit := zbga (l.length : Int) (zha ds) (by omega)
    rw [hti] at hit
    have hqd := zagr l.length (zha ds) ⟨by omega, by omega⟩ (by omega) (fun d hd => by
     obtain ⟨a1, a2, a3, _⟩ := q2.1 d ((zfg ds).mem_iff.1 hd)
     have := zl6 a1
     have := zl6 a2
     omega)
    have hqs : quid l.length (zha ds) = quid l.length ds := by
     unfold quid
     exact List.map_congr_left fun p _ => by rw [zaau (zfg ds)]
    have hqe := za3k (quid l.length ds) l (by simp [quid]; omega)
    simp only [h3, decide_true, Bool.not_true, qj, if_false, hit, qa, hqd, hqs, zap, hqe, qi, if_true]
    by_cases hq : quid l.length ds = l <;> simp [hq]
   ·simp [h3]
def eqD (d e : Dg) : Bool := d.1 == e.1 && (d.2 == e.2 && true)
theorem zs6 (d e : Dg) : eqD d e = true ↔ d = e := by
 obtain ⟨a, b⟩ := d
 obtain ⟨x, y⟩ := e
 simp [eqD]
theorem zaye (d e : Dg) : eqD d e = eqD e d := by
 cases h : eqD e d with
 | true => rw [zs6] at h ⊢; exact h.symm
 | false =>
  cases h2 : eqD d e with
  | false => rfl
  | true => rw [zs6] at h2; rw [h2, (zs6 e e).2 rfl] at h; cases h
def hasD (s : List Dg) (d : Dg) : Bool := s.any (eqD d)
def dOf (q : List Int) : List Dg := (trOf q).getD []
def sdR (p : List Int) : Bool × List Dg := match (solR p).1, (solR p).2 with
 | true, q :: t => (true, t.foldl (fun out r => out.filter (hasD (dOf r))) (dOf q))
 | _, _ => (false, [])
theorem znt (q : List Int) : (dOf q).length ≤ 9 := by
 have hdl : ∀ ds, trOf q = some ds → ds.length ≤ 9 := by
  intro ds h
  unfold trOf at h
  split at h
  ·rename_i hn
   rw [zay] at hn
   split at h
   ·rename_i es hT
    split at h
    ·cases h
     rw [zfu, (zgd _ _ _ _ (zcc _) (by omega) (by rw [za5]; omega) hT).1]
     omega
    ·cases h
   ·cases h
  ·cases h
 unfold dOf
 cases h : trOf q with
 | none => exact Nat.zero_le _
 | some ds => exact hdl ds h
def zajs : FSh := ⟨[(.one (.sl (.pair (.int .i64) (.int .i64)) false false)), (.ag [(.si .i64), (.si .i64)])], []⟩
def zq3 : LSh := ⟨(fun ex => match ex with | .norm => (nz [0, 3, 7, 8]) | .exit i => if i = 0 then [] else [] | .ret => (nz [4])), [(0, (.one (.sl (.pair (.int .i64) (.int .i64)) false false))), (3, qo3), (7, qo1), (8, qo1)], [(.rcd 0 [(.si .i64), (.si .i64)])], [⟨.ret, [(4, qo1)], []⟩, ⟨(.exit 0), [], []⟩], [], []⟩
def zdp : ((List (Int × Int) × Unit × Int × Int) × (Int × Int)) → T (((List (Int × Int) × Unit × Int × Int) × (Int × Int)) ⊕ (Int ⊕ Unit)) := fun ((s, (), t7, t8), (v_0, v_1)) =>(.test (decide (t8 < t7)) (.test (decide ((0 ≤ t8) ∧ (t8 < (s.length : Int)))) (.sub (s[(Int.toNat t8)]?) fun z0 =>(.test ((v_0 == z0.1) && ((v_1 == z0.2) && true)) (.ret (Sum.inr (Sum.inl t8))) (.ret (Sum.inl ((s, ((), (t7, (w64 (t8 + 1))))), (v_0, v_1)))))) .fail) (.ret (Sum.inr (Sum.inr ()))))
def za22 (v) := zav (fun v => (zdp v).run) v
def zajr : List FO := [⟨[(.one (.si .i64))], []⟩]
def za76 : (List (Int × Int) × (Int × Int)) → T Int := fun (s, (v_0, v_1)) =>(.sub (za22 ((s, ((), ((s.length : Int), (0 : Int)))), (v_0, v_1))) fun z0 =>(.test (Sum.isLeft z0) (.sub (Sum.getLeft? z0) fun z1 =>(.ret z1)) (.sub (Sum.getRight? z0) fun z2 =>(.ret (-1)))))
def F28 (v) := (za76 v).run
def za75 : TEnv := E0
theorem zajp : (za75).OK := E0ok
def z8z : Nat → Option zal := fun id => if id = 2 then some (LSh.told zq3 0 (zdp)) else none
theorem zajq : zan Tryz.prog 0 (zad (zac zaa6) [0]) (LSh.told zq3 0 (zdp)) :=
 zak (E := za75) (zajp) (told := z8z) (l := zq3) (step := zdp) (zab (ls := []) (by kernel_rfl) trivial) (by kernel_rfl) (fun v => by kernel_rfl)
theorem zbfs : FOK Tryz.prog zbdc zajs zajr F28 :=
 zao (E := za75) (zajp) (told := z8z) (fl := []) (c := zac zaa6) (s := zajs) (l := zajr) (tree := za76) zays (by kernel_rfl) (by kernel_rfl) (by kernel_rfl) (zab (ls := [zad (zac zaa6) [0]]) (by kernel_rfl) ⟨.inr ⟨_, by kernel_rfl, zajq⟩, trivial⟩) (fun v => by kernel_rfl)
theorem zbfr (s : List Dg) (v : Dg) (hl : s.length < 4611686018427387904) : F28 (s, v) = some (idxI (eqD v) s) := by
 obtain ⟨v0, v1⟩ := v
 have h := zfr (step := fun v => (zdp v).run) (xs := s) (eqD (v0, v1)) (fun k => ((s, ((), ((s.length : Int), (k : Int)))), (v0, v1))) (fun k => .inl (k : Int)) (.inr ())
  (fun k x hx => by
   have hlt := zai hx
   have h1 : (k : Int) < (s.length : Int) := by omega
   have h2 : (0 : Int) ≤ k ∧ (k : Int) < (s.length : Int) := by omega
   simp only [zdp, T.run, qe, hx, qa, h1, h2, decide_true, if_true, and_self]
   rw [zae (z := (k : Int) + 1) (by omega) (by omega)]
   change (if eqD (v0, v1) x = true then _ else _) = _
   cases hv : eqD (v0, v1) x <;> simp)
  (by simp [zdp, T.run])
 rw [show ((0 : Nat) : Int) = 0 from rfl] at h
 simp only [F28, za76, T.run, za22]
 rw [h]
 simp only [idxI]
 cases hf : s.findIdx? (eqD (v0, v1)) <;> simp [Sum.isLeft]
def zajh : FSh := ⟨[(.one (.sl (.pair (.int .i64) (.int .i64)) false false)), (.ag [(.si .i64), (.si .i64)])], []⟩
def zajg : List FO := [⟨[(.one .sb)], []⟩]
def za7w : (List (Int × Int) × (Int × Int)) → T Bool := fun (s, (v_0, v_1)) =>(.sub (F28 (s, (v_0, v_1))) fun z0 =>(.ret (decide (z0 ≥ 0))))
def F20 (v) := (za7w v).run
def zbfi : TEnv := (E0.add1 zbdc zajs zajr F28)
theorem za7v : (zbfi).OK := (E0ok.add1 zbfs)
def zav0 : Nat → Option zal := fun id => none
theorem zbfk : FOK Tryz.prog zbda zajh zajg F20 :=
 zao (E := zbfi) (za7v) (told := zav0) (fl := []) (c := zac za4w) (s := zajh) (l := zajg) (tree := za7w) zayk (by kernel_rfl) (by kernel_rfl) (by kernel_rfl) (zab (ls := []) (by kernel_rfl) trivial) (fun v => by kernel_rfl)
theorem zbfj (s : List Dg) (v : Dg) (hl : s.length < 4611686018427387904) : F20 (s, v) = some (hasD s v) := by
 have h := zbfr s v hl
 obtain ⟨v0, v1⟩ := v
 simp only [F20, za7w, T.run, h, qa, zzg]
 rfl
def z9b : FSh := ⟨[(.ag [(.si .i64), (.si .i64)]), (.one (.pf 0 0 0))], [(.rcd 0 [(.rw 1 0)]), (.row 0 (.pair (.int .i64) (.int .i64)))]⟩
def z9a : List FO := [⟨[(.one .sb)], [(.rcd 0 [(.rw 1 0)]), (.row 0 (.pair (.int .i64) (.int .i64)))]⟩]
def za8z : (((Int × Int) × Unit) × (Unit × List (Int × Int))) → T (Bool × (Unit × List (Int × Int))) := fun (((d_0, d_1), ()), ((), t1_r)) =>(.test (decide ((0 + t1_r.length) ≤ t1_r.length)) (.sub (F20 ((win t1_r 0 t1_r.length), (d_0, d_1))) fun z0 =>(qz t1_r (.ret ((! z0), ((), t1_r))))) .fail)
def F46 (v) := (za8z v).run
def zbgc : TEnv := (E0.add1 zbda zajh zajg F20)
theorem za8y : (zbgc).OK := (E0ok.add1 zbfk)
def zawe : Nat → Option zal := fun id => none
theorem za3g : FOK Tryz.prog z3n z9b z9a F46 :=
 zao (E := zbgc) (za8y) (told := zawe) (fl := []) (c := zac za47) (s := z9b) (l := z9a) (tree := za8z) zaza (by kernel_rfl) (by kernel_rfl) (by kernel_rfl) (zab (ls := []) (by kernel_rfl) trivial) (fun v => by kernel_rfl)
theorem zakh (t : List Dg) (d : Dg) (hl : t.length < 4611686018427387904) : F46 ((d, ()), ((), t)) = some (!hasD t d, ((), t)) := by
 obtain ⟨a, b⟩ := d
 simp [F46, za8z, T.run, zap, zbfj t (a, b) hl]
def zbb6 : FSh := ⟨[(.one (.sl (.pair (.int .i64) (.int .i64)) false false)), (.clo z3n [(.one (.pf 0 0 0))])], [(.rcd 0 [(.rw 1 0)]), (.row 0 (.pair (.int .i64) (.int .i64)))]⟩
def zyd : LSh := ⟨(fun ex => match ex with | .norm => (nz [0, 1, 7, 8]) | .exit i => if i = 0 then [] else [] | .ret => (nz [4])), [(0, (.one (.sl (.pair (.int .i64) (.int .i64)) false false))), (1, (.clo z3n [(.one (.pf 0 0 0))])), (7, qo1), (8, qo1)], [(.rcd 0 [(.rw 1 0)]), (.row 0 (.pair (.int .i64) (.int .i64)))], [⟨.ret, [(4, qo1)], [(.rcd 0 [(.rw 1 0)]), (.row 0 (.pair (.int .i64) (.int .i64)))]⟩, ⟨(.exit 0), [], [(.rcd 0 [(.rw 1 0)]), (.row 0 (.pair (.int .i64) (.int .i64)))]⟩], [], []⟩
def ze9 : ((List (Int × Int) × Unit × Int × Int) × (Unit × List (Int × Int))) → T (((List (Int × Int) × Unit × Int × Int) × (Unit × List (Int × Int))) ⊕ ((Int × (Unit × List (Int × Int))) ⊕ (Unit × (Unit × List (Int × Int))))) := fun ((s, (), t7, t8), ((), r0_r)) =>(.test (decide (t8 < t7)) (.test (decide ((0 ≤ t8) ∧ (t8 < (s.length : Int)))) (.sub (s[(Int.toNat t8)]?) fun z0 =>(qz r0_r (.sub (F46 (((z0.1, z0.2), ()), ((), r0_r))) fun z1 =>(.test z1.1 (qz z1.2.2 (.ret (Sum.inr (Sum.inl (t8, ((), z1.2.2)))))) (qz z1.2.2 (.ret (Sum.inl ((s, ((), (t7, (w64 (t8 + 1))))), ((), z1.2.2))))))))) .fail) (qz r0_r (.ret (Sum.inr (Sum.inr ((), ((), r0_r)))))))
def zbix (v) := zav (fun v => (ze9 v).run) v
def zbb5 : List FO := [⟨[(.one (.si .i64))], [(.rcd 0 [(.rw 1 0)]), (.row 0 (.pair (.int .i64) (.int .i64)))]⟩]
def F9_t : ((List (Int × Int) × Unit) × (Unit × List (Int × Int))) → T (Int × (Unit × List (Int × Int))) := fun ((s, ()), ((), r0_r)) =>(qz r0_r (.sub (zbix ((s, ((), ((s.length : Int), (0 : Int)))), ((), r0_r))) fun z0 =>(.test (Sum.isLeft z0) (.sub (Sum.getLeft? z0) fun z1 =>(qz z1.2.2 (.ret (z1.1, ((), z1.2.2))))) (.sub (Sum.getRight? z0) fun z2 =>(qz z2.2.2 (.ret ((-1), ((), z2.2.2))))))))
def F9 (v) := (F9_t v).run
def F9_E : TEnv := (E0.add1 z3n z9b z9a F46)
theorem za4k : (F9_E).OK := (E0ok.add1 za3g)
def zan4 : Nat → Option zal := fun id => if id = 2 then some (LSh.told zyd 2 (ze9)) else none
theorem zaxy : zan Tryz.prog 2 (zad (zac zj6) [0]) (LSh.told zyd 2 (ze9)) :=
 zak (E := F9_E) (za4k) (told := zan4) (l := zyd) (step := ze9) (zab (ls := []) (by kernel_rfl) trivial) (by kernel_rfl) (fun v => by kernel_rfl)
theorem zbkh : FOK Tryz.prog z7o zbb6 zbb5 F9 :=
 zao (E := F9_E) (za4k) (told := zan4) (fl := []) (c := zac zj6) (s := zbb6) (l := zbb5) (tree := F9_t) zza (by kernel_rfl) (by kernel_rfl) (by kernel_rfl) (zab (ls := [zad (zac zj6) [0]]) (by kernel_rfl) ⟨.inr ⟨_, by kernel_rfl, zaxy⟩, trivial⟩) (fun v => by kernel_rfl)
theorem zbkg (s t : List Dg) (hp : t.length < 4611686018427387904) (hl : s.length < 4611686018427387904) : F9 ((s, ()), ((), t)) = some (idxI (fun q => !hasD t q) s, ((), t)) := by
 have h := zfr (step := fun v => (ze9 v).run) (xs := s) (fun q => !hasD t q) (fun k => ((s, ((), ((s.length : Int), (k : Int)))), ((), t))) (fun k => .inl ((k : Int), ((), t))) (.inr ((), ((), t)))
  (fun k x hx => by
   have hlt := zai hx
   have h1 : (k : Int) < (s.length : Int) := by omega
   have h2 : (0 : Int) ≤ k ∧ (k : Int) < (s.length : Int) := by omega
   simp only [ze9, T.run, qe, hx, qa, h1, h2, decide_true, if_true, and_self, Prod.eta, zakh t x hp]
   rw [zae (z := (k : Int) + 1) (by omega) (by omega)]
   cases hv : hasD t x <;> simp)
  (by simp [ze9, T.run])
 rw [show ((0 : Nat) : Int) = 0 from rfl] at h
 simp only [F9, F9_t, T.run, zbix, and_self, decide_true, if_true]
 rw [h]
 simp only [idxI]
 cases hf : s.findIdx? (fun q => !hasD t q) <;> simp [Sum.isLeft]
def zaw6 : FSh := ⟨[(.one (.rw 0 0)), (.clo z3n [(.one (.pf 1 0 0))])], [(.row 0 (.pair (.int .i64) (.int .i64))), (.rcd 0 [(.rw 2 0)]), (.row 0 (.pair (.int .i64) (.int .i64)))]⟩
def zx6 : LSh := ⟨(fun ex => match ex with | .norm => (nz [0, 1, 5, 6]) | .exit i => if i = 0 then (nz [0, 5]) else [] | .ret => (nz [4])), [(0, qo4), (1, (.clo z3n [(.one (.pf 1 0 0))])), (5, qo1), (6, qo1)], [(.row 0 (.pair (.int .i64) (.int .i64))), (.rcd 0 [(.rw 2 0)]), (.row 0 (.pair (.int .i64) (.int .i64)))], [⟨(.exit 0), [(0, qo4), (5, qo1)], [(.row 0 (.pair (.int .i64) (.int .i64))), (.rcd 0 [(.rw 2 0)]), (.row 0 (.pair (.int .i64) (.int .i64)))]⟩], [], []⟩
def ze3 : ((Unit × Unit × Int × Int) × (List (Int × Int) × Unit × List (Int × Int))) → T (((Unit × Unit × Int × Int) × (List (Int × Int) × Unit × List (Int × Int))) ⊕ ((Unit × Int) × (List (Int × Int) × Unit × List (Int × Int)))) := fun (((), (), i, j), (s, (), r1_r)) =>(.test (decide (j < (s.length : Int))) (.test (decide ((0 ≤ j) ∧ (j < (s.length : Int)))) (.sub (s[(0 + (Int.toNat j))]?) fun z0 =>(qz r1_r (.sub (F46 (((z0.1, z0.2), ()), ((), r1_r))) fun z1 =>(.test (! z1.1) (.test (decide ((0 ≤ i) ∧ (i < (s.length : Int)))) (.sub (s[(0 + (Int.toNat i))]?) fun z2 =>(.test (decide ((0 = 0) ∧ (s.length = (List.length (List.set s (0 + (Int.toNat i)) (z0.1, z0.2)))))) (qz z1.2.2 (.ret (Sum.inl (((), ((), ((w64 (i + 1)), (w64 (j + 1))))), ((List.set s (0 + (Int.toNat i)) (z0.1, z0.2)), ((), z1.2.2)))))) .fail)) .fail) (qz s (qz z1.2.2 (.ret (Sum.inl (((), ((), (i, (w64 (j + 1))))), (s, ((), z1.2.2))))))))))) .fail) (qz s (qz r1_r (.ret (Sum.inr (((), i), (s, ((), r1_r))))))))
def zal5 (v) := zav (fun v => (ze3 v).run) v
def zal7 : List FO := [⟨[(.one (.rf 0 0))], [(.row 0 (.pair (.int .i64) (.int .i64))), (.rcd 0 [(.rw 2 0)]), (.row 0 (.pair (.int .i64) (.int .i64)))]⟩]
def F6_t : ((Unit × Unit) × (List (Int × Int) × Unit × List (Int × Int))) → T ((Nat × Nat) × (List (Int × Int) × Unit × List (Int × Int))) := fun (((), ()), (s, (), r1_r)) =>(.test (decide ((0 + s.length) ≤ s.length)) (qz r1_r (.sub (F9 (((win s 0 s.length), ()), ((), r1_r))) fun z0 =>(.test (z0.1 == (-1)) (qz z0.2.2 (.ret ((0, s.length), (s, ((), z0.2.2))))) (qz s (qz z0.2.2 (.sub (zal5 (((), ((), (z0.1, (w64 (z0.1 + 1))))), (s, ((), z0.2.2)))) fun z1 =>(.test (decide (0 ≤ z1.1.2)) (.test (decide (((Int.toNat z1.1.2) ≤ z1.2.1.length) ∧ (z1.2.1.length ≤ z1.2.1.length))) (.test (decide ((0 < (z1.2.1.length - (Int.toNat z1.1.2))) ∧ (((0 + (Int.toNat z1.1.2)) + (z1.2.1.length - (Int.toNat z1.1.2))) ≤ z1.2.1.length))) (.test (decide (0 ≤ z1.1.2)) (.test (decide ((0 ≤ (Int.toNat z1.1.2)) ∧ ((Int.toNat z1.1.2) ≤ z1.2.1.length))) (qz z1.2.2.2 (.ret ((0, ((Int.toNat z1.1.2) - 0)), ((zbo z1.2.1 (0 + (Int.toNat z1.1.2)) (List.replicate (z1.2.1.length - (Int.toNat z1.1.2)) ((0 : Int), (0 : Int)))), ((), z1.2.2.2))))) .fail) .fail) .fail) .fail) .fail))))))) .fail)
def F6_w (v) := (F6_t v).run
def F6_E : TEnv := ((E0.add1 z7o zbb6 zbb5 F9).add1 z3n z9b z9a F46)
theorem za3s : (F6_E).OK := ((E0ok.add1 zbkh).add1 za3g)
def zal6 : Nat → Option zal := fun id => if id = 5 then some (LSh.told zx6 3 (ze3)) else none
theorem zaw5 : zan Tryz.prog 3 (zad (zac zaa3) [0]) (LSh.told zx6 3 (ze3)) :=
 zak (E := F6_E) (za3s) (told := zal6) (l := zx6) (step := ze3) (zab (ls := []) (by kernel_rfl) trivial) (by kernel_rfl) (fun v => by kernel_rfl)
theorem zbad : FOK Tryz.prog zatb zaw6 zal7 F6_w :=
 zao (E := F6_E) (za3s) (told := zal6) (fl := []) (c := zac zaa3) (s := zaw6) (l := zal7) (tree := F6_t) zayj (by kernel_rfl) (by kernel_rfl) (by kernel_rfl) (zab (ls := [zad (zac zaa3) [0]]) (by kernel_rfl) ⟨.inr ⟨_, by kernel_rfl, zaw5⟩, trivial⟩) (fun v => by kernel_rfl)
def zbac : List FO := [⟨[(.one (.rw 0 0))], [(.row 0 (.pair (.int .i64) (.int .i64))), (.rcd 0 [(.rw 2 0)]), (.row 0 (.pair (.int .i64) (.int .i64)))]⟩]
def F6_m : ((Nat × Nat) × (List (Int × Int) × Unit × List (Int × Int))) → T (Unit × (List (Int × Int) × Unit × List (Int × Int))) := fun ((o, n), (r0, r1, r2)) => .test (decide (o = 0 ∧ n ≤ r0.length)) (.ret ((), ((List.take n r0), r1, r2))) .fail
def F6 (v : ((Unit × Unit) × (List (Int × Int) × Unit × List (Int × Int)))) : Option (Unit × (List (Int × Int) × Unit × List (Int × Int))) := (F6_w v).bind fun o => (F6_m o).run
theorem zbkb : FOK Tryz.prog zatb zaw6 zbac F6 :=
 FOK.trunc (l' := zbac) zbad F6_m (fun o => by kernel_rfl)
theorem z6t (t : List Dg) (hp : t.length < 4611686018427387904) (o : List Dg) (hl : o.length < 4611686018427387904) : ∀ (m j : Nat) (s : List Dg) (i : Nat), j + m = o.length → s.length = o.length → i < j → s.take i = (o.take j).filter (hasD t) → s.drop j = o.drop j →
  ∃ (i' : Nat) (s' : List Dg), s'.length = o.length ∧ i' < o.length ∧ s'.take i' = o.filter (hasD t) ∧ zal5 (((), ((), ((i : Int), (j : Int)))), (s, ((), t))) = some (((), (i' : Int)), (s', ((), t)))
 | 0, j, s, i, hj, hs, hi, h1, h2 => by
  have : j = o.length := by omega
  subst this
  rw [List.take_length] at h1
  refine ⟨i, s, hs, hi, h1, ?_⟩
  simp only [zal5]
  refine zag ?_
  have : ¬ ((o.length : Int) < (s.length : Int)) := by omega
  simp [ze3, T.run, this]
 | m + 1, j, s, i, hj, hs, hi, h1, h2 => by
  have hlt : j < s.length := by omega
  have hlo : j < o.length := by omega
  have he : s[j] = o[j] := by
   rw [qm hlt, qm hlo] at h2
   exact (List.cons.inj h2).1
  have h2' : s.drop (j + 1) = o.drop (j + 1) := by
   rw [qm hlt, qm hlo] at h2
   exact (List.cons.inj h2).2
  have c0 : (j : Int) < (s.length : Int) := by omega
  have c1 : (0 : Int) ≤ (j : Int) ∧ (j : Int) < (s.length : Int) := by omega
  have c2 : (0 : Int) ≤ (i : Int) ∧ (i : Int) < (s.length : Int) := by omega
  have w1 : w64 ((j : Int) + 1) = ((j + 1 : Nat) : Int) := by rw [zae (by omega) (by omega)]; omega
  have w2 : w64 ((i : Int) + 1) = ((i + 1 : Nat) : Int) := by rw [zae (by omega) (by omega)]; omega
  have g1 := qb hlt
  have g2 := qb (show i < s.length by omega)
  have htake : o.take (j + 1) = o.take j ++ [o[j]] := List.take_succ_eq_append_getElem hlo
  cases hf : hasD t o[j] with
  | true =>
   have e1 : (s.set i o[j]).take (i + 1) = (o.take (j + 1)).filter (hasD t) := by
    rw [List.take_succ_eq_append_getElem (by simp; omega), List.getElem_set_self, List.take_set_of_le (qi _), h1, htake, List.filter_append]
    simp [hf]
   obtain ⟨i', s', r1, r2, r3, r4⟩ := z6t t hp o hl m (j + 1) (s.set i o[j]) (i + 1) (by omega) (by simpa using hs) (by omega) e1 (by rw [List.drop_set_of_lt (by omega)]; exact h2')
   refine ⟨i', s', r1, r2, r3, ?_⟩
   simp only [zal5] at r4 ⊢
   rw [← r4]
   refine zah ?_
   simp only [ze3, T.run, c0, c1, c2, decide_true, if_true, and_self, qe, Nat.zero_add, g1, g2, he, qa, Prod.eta, zakh t _ hp, hf, Bool.not_true, Bool.not_false, w1, w2, qy]
  | false =>
   have e1 : s.take i = (o.take (j + 1)).filter (hasD t) := by
    rw [h1, htake, List.filter_append]
    simp [hf]
   obtain ⟨i', s', r1, r2, r3, r4⟩ := z6t t hp o hl m (j + 1) s i (by omega) hs (by omega) e1 h2'
   refine ⟨i', s', r1, r2, r3, ?_⟩
   simp only [zal5] at r4 ⊢
   rw [← r4]
   refine zah ?_
   simp only [ze3, T.run, c0, c1, decide_true, if_true, and_self, qe, Nat.zero_add, g1, he, qa, Prod.eta, zakh t _ hp, hf, Bool.not_true, Bool.not_false, qj, if_false, w1]
theorem zbka (s t : List Dg) (hp : t.length < 4611686018427387904) (hl : s.length < 4611686018427387904) : F6 (((), ()), (s, ((), t))) = some ((), (s.filter (hasD t), ((), t))) := by
 have hi := zbkg s t hp hl
 simp only [F6, F6_w, F6_t, T.run, Nat.zero_add, qi, decide_true, if_true, zap, hi, qa, true_and]
 unfold idxI
 cases hf : s.findIdx? (fun q => !hasD t q) with
 | none =>
  have hall : s.filter (hasD t) = s := by
   rw [List.filter_eq_self]
   intro x hx
   have := List.findIdx?_eq_none_iff.1 hf x hx
   simpa using this
  rw [hall]
  simp [F6_m, T.run]
 | some i =>
  obtain ⟨h1, h2, h3⟩ := List.findIdx?_eq_some_iff_getElem.1 hf
  have ht : s.take i = (s.take (i + 1)).filter (hasD t) := by
   rw [List.take_succ_eq_append_getElem h1, List.filter_append]
   have : [s[i]].filter (hasD t) = [] := by simp at h2; simp [h2]
   rw [this, kq]
   symm
   rw [List.filter_eq_self]
   intro x hx
   obtain ⟨j, hj, e⟩ := List.mem_take_iff_getElem.1 hx
   have := h3 j (by omega)
   rw [e] at this
   simpa using this
  obtain ⟨i', s', r1, r2, r3, r4⟩ := z6t t hp s hl (s.length - (i + 1)) (i + 1) s i (by omega) rfl (by omega) ht rfl
  have w1 : w64 ((i : Int) + 1) = ((i + 1 : Nat) : Int) := by rw [zae (by omega) (by omega)]; omega
  have hne : ((i : Int) == -1) = false := by rw [zsm]; exact decide_eq_false (by omega)
  have c1 : (0 : Int) ≤ (i' : Int) := by omega
  have c2 : i' ≤ s'.length ∧ s'.length ≤ s'.length := by omega
  have c3 : 0 < s'.length - i' ∧ i' + (s'.length - i') ≤ s'.length := by omega
  have c4 : 0 ≤ i' ∧ i' ≤ s'.length := by omega
  have hsp : (zbo s' i' (List.replicate (s'.length - i') ((0 : Int), (0 : Int)))).take i' = s.filter (hasD t) := by
   unfold zbo
   rw [List.take_append_of_le_length (by rw [kp]; omega), List.take_take, Nat.min_self, r3]
  have hspl : i' ≤ (zbo s' i' (List.replicate (s'.length - i') ((0 : Int), (0 : Int)))).length := by
   unfold zbo
   simp only [ql, kp, kj, kb]
   omega
  simp only [hne, qj, if_false, w1, r4, qa, c1, c2, c3, c4, decide_true, if_true, and_self, qe, F6_m, T.run, Nat.sub_zero, true_and, hspl, hsp]
def zalx : FSh := ⟨[(.ag [(.sl (.int .i64) false false)])], []⟩
def zrd : LSh := ⟨(fun ex => match ex with | .norm => (nz [6, 27, 28, 29]) | .exit i => if i = 0 then (nz [6]) else [] | .ret => (nz [2, 3])), [(6, qo4), (27, (.one (.rf 1 0))), (28, qo1), (29, qo1)], [(.row 0 (.pair (.int .i64) (.int .i64))), qr2], [⟨(.exit 0), [(6, qo4)], [(.row 0 (.pair (.int .i64) (.int .i64)))]⟩], [], []⟩
def zdu : ((Unit × (Nat × Nat) × Int × Int) × (List (Int × Int) × List (List Int))) → T (((Unit × (Nat × Nat) × Int × Int) × (List (Int × Int) × List (List Int))) ⊕ (Unit × List (Int × Int))) := fun (((), (t27_o, t27_n), t28, t29), (out, t27)) =>(.test (decide (t29 < t28)) (.test (decide ((0 ≤ t29) ∧ (t29 < (t27_n : Int)))) (.sub (t27[(t27_o + (Int.toNat t29))]?) fun z0 =>(.sub (F65 z0) fun z1 =>(qz out (qz z1.2 (.sub (F6 (((), ()), (out, ((), z1.2)))) fun z2 =>(qz z2.2.1 (.ret (Sum.inl (((), ((t27_o, t27_n), (t28, (w64 (t29 + 1))))), (z2.2.1, t27)))))))))) .fail) (qz out (.ret (Sum.inr ((), out)))))
def zalu (v) := zav (fun v => (zdu v).run) v
def zalw : List FO := [⟨[(.one (.rw 0 0)), (.one .sb)], [(.row 0 (.pair (.int .i64) (.int .i64)))]⟩]
def za96 : List Int → T ((Unit × Bool) × List (Int × Int)) := fun p_0 =>(.sub (F61 p_0) fun z0 =>(.test (! z0.1.2) (.test true (.ret (((), false), ([] : List (Int × Int)))) .fail) (.test (decide (((0 : Int) ≤ (0 : Int)) ∧ (0 < (z0.2.length : Int)))) (.sub (z0.2[0]?) fun z1 =>(.sub (F65 z1) fun z2 =>(.test true (.test (decide ((1 ≤ z0.2.length) ∧ (z0.2.length ≤ z0.2.length))) (qz z2.2 (.sub (zalu (((), ((1, (z0.2.length - 1)), ((((z0.2.length - 1) : Nat) : Int), (0 : Int)))), (z2.2, z0.2))) fun z3 =>(qz z3.2 (.ret (((), true), z3.2))))) .fail) .fail))) .fail)))
def F66 (v) := (za96 v).run
def za95 : TEnv := (((E0.add1 zatf z0z z0y F61).add1 zatg z02 z01 F65).add1 zatb zaw6 zbac F6)
theorem zalt : (za95).OK := (((E0ok.add1 zalj).add1 zals).add1 zbkb)
def z9m : Nat → Option zal := fun id => if id = 6 then some (LSh.told zrd 0 (zdu)) else none
theorem zalv : zan Tryz.prog 0 (zad (zac zabg) [0]) (LSh.told zrd 0 (zdu)) :=
 zak (E := za95) (zalt) (told := z9m) (l := zrd) (step := zdu) (zab (ls := []) (by kernel_rfl) trivial) (by kernel_rfl) (fun v => by kernel_rfl)
theorem zbhd : FOK Tryz.prog zbd0 zalx zalw F66 :=
 zao (E := za95) (zalt) (told := z9m) (fl := []) (c := zac zabg) (s := zalx) (l := zalw) (tree := za96) zazu (by kernel_rfl) (by kernel_rfl) (by kernel_rfl) (zab (ls := [zad (zac zabg) [0]]) (by kernel_rfl) ⟨.inr ⟨_, by kernel_rfl, zalv⟩, trivial⟩) (fun v => by kernel_rfl)
theorem zac2 (q : List Int) (hl : q.length < 4611686018427387904) : ∃ b, F65 q = some (((), b), dOf q) := by
 rw [zalq q hl]
 unfold dOf
 cases trOf q with
 | none => exact ⟨_, rfl⟩
 | some ds => exact ⟨_, rfl⟩
theorem zaw0 (o : List Dg) (q : List Int) (t : List (List Int)) (ho : o.length ≤ 9) (ht : t.length < 1000000) (hq : ∀ r ∈ t, r.length < 4611686018427387904) :
  zalu (((), ((1, t.length), ((t.length : Int), (0 : Int)))), (o, q :: t)) = some ((), t.foldl (fun out r => out.filter (hasD (dOf r))) o) := by
 have h := zbm (step := fun v => (zdu v).run) (xs := t) (fun k (s : List Dg) => s.length ≤ 9) (fun k s => (((), ((1, t.length), ((t.length : Int), (k : Int)))), (s, q :: t))) (fun out r => out.filter (hasD (dOf r))) (fun s => ((), s))
  (fun k s x hP hx => by
   have hlt := zai hx
   refine ⟨?_, Nat.le_trans (List.length_filter_le _ _) hP⟩
   have c0 : (k : Int) < (t.length : Int) := by omega
   have c1 : (0 : Int) ≤ (k : Int) ∧ (k : Int) < (t.length : Int) := by omega
   have w1 : w64 ((k : Int) + 1) = ((k + 1 : Nat) : Int) := by rw [zae (by omega) (by omega)]; omega
   obtain ⟨b, hb⟩ := zac2 x (hq x (qp hx))
   have hd := znt x
   have hg : (q :: t)[1 + k]? = some x := by rw [Nat.add_comm, List.getElem?_cons_succ]; exact hx
   have hdel := zbka s (dOf x) (by omega) (by omega)
   simp only [zdu, T.run_test, T.run_sub, T.run_ret, T.run_fail]
   rw [if_pos (qd c0), if_pos (qd c1), qe, hg, qa, hb, qa, if_pos (by simp), if_pos (by simp), hdel, qa, if_pos (by simp), w1])
  (fun s hs => by simp [zdu, T.run])
  o ho
 simp only [ka] at h
 simp only [zalu]
 exact h.1
theorem zbhc (p : List Int) (hl : p.length < 4611686018427387904) : F66 p = some (((), (sdR p).1), (sdR p).2) := by
 have hsome : F61 p = some (((), ((solR p).1 && decide (((solR p).2.length : Int) > 0))), (solR p).2) := by
  rw [F61, zalk, T.run_sub, zqa p hl, qa, T.run_test]
  cases (solR p).1 <;> simp [T.run]
 rw [F66, za96, T.run_sub, hsome, qa, T.run_test]
 unfold sdR
 have hm : ∀ q ∈ (solR p).2, q.length = p.length ∧ p.length ≤ 9 := fun q h => zfl h
 have h3 := zmi p
 generalize solR p = r at *
 obtain ⟨ok, l⟩ := r
 simp only at hm h3
 cases ok with
 | false => simp [T.run]
 | true =>
  cases l with
  | nil => simp [T.run]
  | cons q t =>
   have hq := hm q (by simp)
   obtain ⟨b, hb⟩ := zac2 q (by omega)
   have hd := znt q
   simp only [qk] at h3
   have h6 := zaw0 (dOf q) q t hd (by omega) (fun r hr => by have := hm r (qv _ hr); omega)
   have hpos : decide ((((q :: t).length : Nat) : Int) > 0) = true := qd (by rw [qk]; omega)
   have c1 : (0 : Int) ≤ (0 : Int) ∧ (0 : Int) < ((q :: t).length : Int) := by rw [qk]; omega
   have c2 : 1 ≤ (q :: t).length ∧ (q :: t).length ≤ (q :: t).length := by rw [qk]; omega
   have e1 : (q :: t).length - 1 = t.length := by simp
   simp only [T.run_test, T.run_sub, T.run_ret, T.run_fail]
   rw [if_neg (by rw [hpos]; simp)]
   rw [if_pos (qd (by exact c1)), kk, qa, hb, qa, if_pos trivial, if_pos (qd c2), if_pos (by simp), e1, h6, qa, if_pos (by simp)]
def zakj : FSh := ⟨[(.one (.sl (.int .i64) false false))], []⟩
def zaki : List FO := [⟨[(.one (.rw 0 0)), (.one .sb)], [(.row 0 (.pair (.int .i64) (.int .i64)))]⟩]
def za81 : List Int → T ((Unit × Bool) × List (Int × Int)) := fun quiddity =>(.sub (F150 quiddity) fun z0 =>(.test (! z0.1.2) (.test true (.ret (((), false), ([] : List (Int × Int)))) .fail) (qz z0.2 (.ret (((), true), z0.2)))))
def F47 (v) := (za81 v).run
def zbgd : TEnv := (E0.add1 zab7 zxz zxy F150)
theorem za80 : (zbgd).OK := (E0ok.add1 zai8)
def zawf : Nat → Option zal := fun id => none
theorem zbge : FOK Tryz.prog zbdm zakj zaki F47 :=
 zao (E := zbgd) (za80) (told := zawf) (fl := []) (c := zac za48) (s := zakj) (l := zaki) (tree := za81) zazb (by kernel_rfl) (by kernel_rfl) (by kernel_rfl) (zab (ls := []) (by kernel_rfl) trivial) (fun v => by kernel_rfl)
def zal2 : FSh := ⟨[(.ag [(.sl (.int .i64) false false)])], []⟩
def znn : LSh := ⟨(fun ex => match ex with | .norm => (nz [4, 8, 10, 11, 16, 38, 39, 40, 44, 45, 46, 55, 56, 57]) | .exit i => if i = 4 then (nz [4, 8, 10, 11, 16, 38, 39, 40, 44, 45, 46]) else if i = 3 then (nz [4, 8, 10, 11, 38, 39, 40, 44, 45, 46]) else if i = 2 then (nz [4, 8, 10, 11, 38, 39, 40]) else if i = 1 then (nz [4, 8, 38, 39, 40]) else if i = 0 then (nz [8]) else [] | .ret => (nz [2, 3])), [(4, qo4), (8, qo9), (10, (.one (.pf 2 0 0))), (11, qo2), (16, qo2), (38, (.one (.rw 3 0))), (39, qo1), (40, qo1), (44, qo4), (45, qo1), (46, qo1), (55, (.one (.rw 4 0))), (56, qo1), (57, qo1)], [qr2, (.row 0 (.pair (.int .i64) (.int .i64))), (.rcd 0 [(.si .i64), (.si .i64)]), (.row 0 (.pair (.int .i64) (.int .i64))), (.row 0 (.pair (.int .i64) (.int .i64)))], [⟨(.exit 4), [(4, qo4), (8, qo9), (10, (.one (.pf 2 0 0))), (11, qo2), (16, qo2), (38, (.one (.rw 3 0))), (39, qo1), (40, qo1), (44, qo4), (45, qo1), (46, qo1)], [qr2, (.row 0 (.pair (.int .i64) (.int .i64))), (.rcd 0 [(.si .i64), (.si .i64)]), (.row 0 (.pair (.int .i64) (.int .i64)))]⟩], [], []⟩
def zcz : ((Unit × Unit × Unit × Bool × Bool × Unit × Int × Int × Unit × Int × Int × Unit × Int × Int) × (List (List Int) × List (Int × Int) × (Int × Int) × List (Int × Int) × List (Int × Int))) → T (((Unit × Unit × Unit × Bool × Bool × Unit × Int × Int × Unit × Int × Int × Unit × Int × Int) × (List (List Int) × List (Int × Int) × (Int × Int) × List (Int × Int) × List (Int × Int))) ⊕ ((Unit × Unit × Unit × Bool × Bool × Unit × Int × Int × Unit × Int × Int) × (List (List Int) × List (Int × Int) × (Int × Int) × List (Int × Int)))) := fun (((), (), (), sure, has, (), t39, t40, (), t45, t46, (), t56, t57), (all, out, (d_0, d_1), t38, t55)) =>(.test (decide (t57 < t56)) (.test (decide ((0 ≤ t57) ∧ (t57 < (t55.length : Int)))) (.sub (t55[(0 + (Int.toNat t57))]?) fun z0 =>(.test has (qz all (qz out (qz t38 (qz all (qz t55 (.ret (Sum.inl (((), ((), ((), (sure, (true, ((), (t39, (t40, ((), (t45, (t46, ((), (t56, (w64 (t57 + 1))))))))))))))), (all, (out, ((d_0, d_1), (t38, t55)))))))))))) (qz all (qz out (qz t38 (qz all (qz t55 (.ret (Sum.inl (((), ((), ((), (sure, (((z0.1 == d_0) && ((z0.2 == d_1) && true)), ((), (t39, (t40, ((), (t45, (t46, ((), (t56, (w64 (t57 + 1))))))))))))))), (all, (out, ((d_0, d_1), (t38, t55)))))))))))))) .fail) (qz all (qz out (qz t38 (qz all (.ret (Sum.inr (((), ((), ((), (sure, (has, ((), (t39, (t40, ((), (t45, t46)))))))))), (all, (out, ((d_0, d_1), t38)))))))))))
def z6s (v) := zav (fun v => (zcz v).run) v
def znm : LSh := ⟨(fun ex => match ex with | .norm => (nz [4, 8, 10, 11, 38, 39, 40, 44, 45, 46]) | .exit i => if i = 2 then (nz [4, 8, 10, 11, 38, 39, 40]) else if i = 1 then (nz [4, 8, 38, 39, 40]) else if i = 0 then (nz [8]) else [] | .ret => (nz [2, 3])), [(4, qo4), (8, qo9), (10, (.one (.pf 2 0 0))), (11, qo2), (38, (.one (.rw 3 0))), (39, qo1), (40, qo1), (44, qo4), (45, qo1), (46, qo1)], [qr2, (.row 0 (.pair (.int .i64) (.int .i64))), (.rcd 0 [(.si .i64), (.si .i64)]), (.row 0 (.pair (.int .i64) (.int .i64)))], [⟨(.exit 2), [(4, qo4), (8, qo9), (10, (.one (.pf 2 0 0))), (11, qo2), (38, (.one (.rw 3 0))), (39, qo1), (40, qo1)], [qr2, (.row 0 (.pair (.int .i64) (.int .i64))), (.rcd 0 [(.si .i64), (.si .i64)]), (.row 0 (.pair (.int .i64) (.int .i64)))]⟩], [], []⟩
def zcy : ((Unit × Unit × Unit × Bool × Unit × Int × Int × Unit × Int × Int) × (List (List Int) × List (Int × Int) × (Int × Int) × List (Int × Int))) → T (((Unit × Unit × Unit × Bool × Unit × Int × Int × Unit × Int × Int) × (List (List Int) × List (Int × Int) × (Int × Int) × List (Int × Int))) ⊕ ((Unit × Unit × Unit × Bool × Unit × Int × Int) × (List (List Int) × List (Int × Int) × (Int × Int) × List (Int × Int)))) := fun (((), (), (), sure, (), t39, t40, (), t45, t46), (all, out, (d_0, d_1), t38)) =>(.test (decide (t46 < t45)) (.test (decide ((0 ≤ t46) ∧ (t46 < (all.length : Int)))) (.sub (all[(0 + (Int.toNat t46))]?) fun z0 =>(.sub (F47 z0) fun z1 =>(qz all (qz out (qz t38 (qz all (qz z1.2 (.sub (z6s (((), ((), ((), (sure, (false, ((), (t39, (t40, ((), (t45, (t46, ((), ((z1.2.length : Int), (0 : Int)))))))))))))), (all, (out, ((d_0, d_1), (t38, z1.2)))))) fun z2 =>(.test z2.1.2.2.2.1 (qz z2.2.1 (qz z2.2.2.1 (qz z2.2.2.2.2 (qz z2.2.1 (.ret (Sum.inl (((), ((), ((), (z2.1.2.2.2.2.1, ((), (z2.1.2.2.2.2.2.2.1, (z2.1.2.2.2.2.2.2.2.1, ((), (z2.1.2.2.2.2.2.2.2.2.2.1, (w64 (z2.1.2.2.2.2.2.2.2.2.2.2 + 1))))))))))), (z2.2.1, (z2.2.2.1, ((z2.2.2.2.1.1, z2.2.2.2.1.2), z2.2.2.2.2)))))))))) (qz z2.2.1 (qz z2.2.2.1 (qz z2.2.2.2.2 (qz z2.2.1 (.ret (Sum.inl (((), ((), ((), (false, ((), (z2.1.2.2.2.2.2.2.1, (z2.1.2.2.2.2.2.2.2.1, ((), (z2.1.2.2.2.2.2.2.2.2.2.1, (w64 (z2.1.2.2.2.2.2.2.2.2.2.2 + 1))))))))))), (z2.2.1, (z2.2.2.1, ((z2.2.2.2.1.1, z2.2.2.2.1.2), z2.2.2.2.2))))))))))))))))))) .fail) (qz all (qz out (qz t38 (.ret (Sum.inr (((), ((), ((), (sure, ((), (t39, t40)))))), (all, (out, ((d_0, d_1), t38))))))))))
def z6r (v) := zav (fun v => (zcy v).run) v
def zre : LSh := ⟨(fun ex => match ex with | .norm => (nz [4, 8, 38, 39, 40]) | .exit i => if i = 0 then (nz [8]) else [] | .ret => (nz [2, 3])), [(4, qo4), (8, qo9), (38, qo8), (39, qo1), (40, qo1)], [qr2, (.row 0 (.pair (.int .i64) (.int .i64))), (.row 0 (.pair (.int .i64) (.int .i64)))], [⟨(.exit 0), [(8, qo4)], [(.row 0 (.pair (.int .i64) (.int .i64)))]⟩], [], []⟩
def zdv : ((Unit × Unit × Unit × Int × Int) × (List (List Int) × List (Int × Int) × List (Int × Int))) → T (((Unit × Unit × Unit × Int × Int) × (List (List Int) × List (Int × Int) × List (Int × Int))) ⊕ (Unit × List (Int × Int))) := fun (((), (), (), t39, t40), (all, out, t38)) =>(.test (decide (t40 < t39)) (.test (decide ((0 ≤ t40) ∧ (t40 < (t38.length : Int)))) (.sub (t38[(0 + (Int.toNat t40))]?) fun z0 =>(qz all (qz out (qz t38 (qz all (.sub (z6r (((), ((), ((), (true, ((), (t39, (t40, ((), ((all.length : Int), (0 : Int)))))))))), (all, (out, ((z0.1, z0.2), t38))))) fun z1 =>(.test z1.1.2.2.2.1 (.test (decide (1 ≤ (List.length (List.set (List.replicate 1 ((0 : Int), (0 : Int))) 0 (z1.2.2.2.1.1, z1.2.2.2.1.2))))) (.test (decide ((0 + z1.2.2.1.length) ≤ z1.2.2.1.length)) (.test (decide ((2 * ((z1.2.2.1.length + (List.length (win (List.set (List.replicate 1 ((0 : Int), (0 : Int))) 0 (z1.2.2.2.1.1, z1.2.2.2.1.2)) 0 1))) * 17)) ≤ 140737488355328)) (qz z1.2.1 (.test (decide ((0 = 0) ∧ ((z1.2.2.1.length + (List.length (win (List.set (List.replicate 1 ((0 : Int), (0 : Int))) 0 (z1.2.2.2.1.1, z1.2.2.2.1.2)) 0 1))) = (List.length ((win z1.2.2.1 0 z1.2.2.1.length) ++ (win (List.set (List.replicate 1 ((0 : Int), (0 : Int))) 0 (z1.2.2.2.1.1, z1.2.2.2.1.2)) 0 1)))))) (qz z1.2.2.2.2 (.ret (Sum.inl (((), ((), ((), (z1.1.2.2.2.2.2.1, (w64 (z1.1.2.2.2.2.2.2 + 1)))))), (z1.2.1, (((win z1.2.2.1 0 z1.2.2.1.length) ++ (win (List.set (List.replicate 1 ((0 : Int), (0 : Int))) 0 (z1.2.2.2.1.1, z1.2.2.2.1.2)) 0 1)), z1.2.2.2.2)))))) .fail)) .fail) .fail) .fail) (qz z1.2.1 (qz z1.2.2.1 (qz z1.2.2.2.2 (.ret (Sum.inl (((), ((), ((), (z1.1.2.2.2.2.2.1, (w64 (z1.1.2.2.2.2.2.2 + 1)))))), (z1.2.1, (z1.2.2.1, z1.2.2.2.2))))))))))))))) .fail) (qz out (.ret (Sum.inr ((), out)))))
def zalz (v) := zav (fun v => (zdv v).run) v
def zal1 : List FO := [⟨[(.one (.rw 0 0)), (.one .sb)], [(.row 0 (.pair (.int .i64) (.int .i64)))]⟩]
def za98 : List Int → T ((Unit × Bool) × List (Int × Int)) := fun p_0 =>(.sub (F138 p_0) fun z0 =>(.test (! z0.1.2) (.test true (.ret (((), false), ([] : List (Int × Int)))) .fail) (.test ((z0.2.length : Int) == 0) (.test true (.ret (((), false), ([] : List (Int × Int)))) .fail) (.test (decide (((0 : Int) ≤ (0 : Int)) ∧ (0 < (z0.2.length : Int)))) (.sub (z0.2[0]?) fun z1 =>(.sub (F47 z1) fun z2 =>(qz z0.2 (.test (decide ((0 = 0) ∧ (0 = (List.length ([] : List (Int × Int)))))) (qz z2.2 (.sub (zalz (((), ((), ((), ((z2.2.length : Int), (0 : Int))))), (z0.2, (([] : List (Int × Int)), z2.2)))) fun z3 =>(qz z3.2 (.ret (((), true), z3.2))))) .fail)))) .fail))))
def F67 (v) := (za98 v).run
def zaly : TEnv := ((E0.add1 ztq zkg zkf F138).add1 zbdm zakj zaki F47)
theorem zx5 : (zaly).OK := ((E0ok.add1 zqx).add1 zbge)
def zpx : Nat → Option zal := fun id => if id = 16 then some (LSh.told znn 0 (zcz)) else if id = 11 then some (LSh.told znm 0 (zcy)) else if id = 7 then some (LSh.told zre 0 (zdv)) else none
theorem zad5 : zan Tryz.prog 0 (zad (zac zo8) [0, 0, 0]) (LSh.told znn 0 (zcz)) :=
 zak (E := zaly) (zx5) (told := zpx) (l := znn) (step := zcz) (zab (ls := []) (by kernel_rfl) trivial) (by kernel_rfl) (fun v => by kernel_rfl)
theorem zad4 : zan Tryz.prog 0 (zad (zac zo8) [0, 0]) (LSh.told znm 0 (zcy)) :=
 zak (E := zaly) (zx5) (told := zpx) (l := znm) (step := zcy) (zab (ls := [zad (zac zo8) [0, 0, 0]]) (by kernel_rfl) ⟨.inr ⟨_, by kernel_rfl, zad5⟩, trivial⟩) (by kernel_rfl) (fun v => by kernel_rfl)
theorem zal0 : zan Tryz.prog 0 (zad (zac zo8) [0]) (LSh.told zre 0 (zdv)) :=
 zak (E := zaly) (zx5) (told := zpx) (l := zre) (step := zdv) (zab (ls := [zad (zac zo8) [0, 0]]) (by kernel_rfl) ⟨.inr ⟨_, by kernel_rfl, zad4⟩, trivial⟩) (by kernel_rfl) (fun v => by kernel_rfl)
theorem zbhf : FOK Tryz.prog zbd1 zal2 zal1 F67 :=
 zao (E := zaly) (zx5) (told := zpx) (fl := []) (c := zac zo8) (s := zal2) (l := zal1) (tree := za98) zazv (by kernel_rfl) (by kernel_rfl) (by kernel_rfl) (zab (ls := [zad (zac zo8) [0]]) (by kernel_rfl) ⟨.inr ⟨_, by kernel_rfl, zal0⟩, trivial⟩) (fun v => by kernel_rfl)
theorem zac3 (q : List Int) (hl : q.length < 4611686018427387904) : ∃ b, F47 q = some (((), b), dOf q) := by
 obtain ⟨r, _, h, _⟩ := zai7 q hl
 rw [F47, za81, T.run_sub, h, qa, T.run_test]
 unfold dOf
 cases trOf q with
 | none => exact ⟨false, by simp [T.run]⟩
 | some ds => exact ⟨true, by simp [T.run]⟩
theorem za97 (d : Dg) (ds : List Dg) (sure : Bool) (all : List (List Int)) (out t38 : List Dg) (t39 t40 t45 t46 : Int) (hl : ds.length < 1000000) :
  z6s (((), ((), ((), (sure, (false, ((), (t39, (t40, ((), (t45, (t46, ((), ((ds.length : Int), (0 : Int)))))))))))))), (all, (out, (d, (t38, ds))))) = some (((), ((), ((), (sure, (hasD ds d, ((), (t39, (t40, ((), (t45, t46)))))))))), (all, (out, (d, t38)))) := by
 obtain ⟨d0, d1⟩ := d
 have h := zbm (step := fun v => (zcz v).run) (xs := ds) (fun k (_ : Bool) => True) (fun k b => (((), ((), ((), (sure, (b, ((), (t39, (t40, ((), (t45, (t46, ((), ((ds.length : Int), (k : Int)))))))))))))), (all, (out, ((d0, d1), (t38, ds)))))) (fun b e => b || eqD e (d0, d1)) (fun b => (((), ((), ((), (sure, (b, ((), (t39, (t40, ((), (t45, t46)))))))))), (all, (out, ((d0, d1), t38)))))
  (fun k b x hP hx => by
   have hlt := zai hx
   refine ⟨?_, trivial⟩
   have c0 : (k : Int) < (ds.length : Int) := by omega
   have c1 : (0 : Int) ≤ (k : Int) ∧ (k : Int) < (ds.length : Int) := by omega
   have w1 : w64 ((k : Int) + 1) = ((k + 1 : Nat) : Int) := by rw [zae (by omega) (by omega)]; omega
   obtain ⟨_, hxe⟩ := qh.1 hx
   cases b <;> simp [zcz, T.run, hlt, w1, eqD, hxe, ← Int.natCast_add])
  (fun b hs => by simp [zcz, T.run])
  false trivial
 simp only [ka] at h
 simp only [z6s]
 rw [h.1]
 have e : ∀ (l : List Dg) (b : Bool), l.foldl (fun b e => b || eqD e (d0, d1)) b = (b || l.any (eqD (d0, d1))) := by
  intro l
  induction l with
  | nil => intro b; simp
  | cons x l ih => intro b; rw [List.foldl_cons, ih, List.any_cons, zaye x, Bool.or_assoc]
 rw [e, Bool.false_or]
 rfl
theorem zaw2 (d : Dg) (all : List (List Int)) (out t38 : List Dg) (t39 t40 : Int) (hl : all.length < 1000000) (hq : ∀ r ∈ all, r.length < 4611686018427387904) :
  z6r (((), ((), ((), (true, ((), (t39, (t40, ((), ((all.length : Int), (0 : Int)))))))))), (all, (out, (d, t38)))) = some (((), ((), ((), ((all.all fun r => hasD (dOf r) d), ((), (t39, t40)))))), (all, (out, (d, t38)))) := by
 obtain ⟨d0, d1⟩ := d
 have h := zbm (step := fun v => (zcy v).run) (xs := all) (fun k (_ : Bool) => True) (fun k b => (((), ((), ((), (b, ((), (t39, (t40, ((), ((all.length : Int), (k : Int)))))))))), (all, (out, ((d0, d1), t38))))) (fun b r => b && hasD (dOf r) (d0, d1)) (fun b => (((), ((), ((), (b, ((), (t39, t40)))))), (all, (out, ((d0, d1), t38)))))
  (fun k b x hP hx => by
   have hlt := zai hx
   refine ⟨?_, trivial⟩
   have c0 : (k : Int) < (all.length : Int) := by omega
   have c1 : (0 : Int) ≤ (k : Int) ∧ (k : Int) < (all.length : Int) := by omega
   have w1 : w64 ((k : Int) + 1) = ((k + 1 : Nat) : Int) := by rw [zae (by omega) (by omega)]; omega
   obtain ⟨ok, hb⟩ := zac3 x (hq x (qp hx))
   have hd := znt x
   have h16 := za97 (d0, d1) (dOf x) b all out t38 t39 t40 (all.length : Int) (k : Int) (by omega)
   simp only [zcy, T.run_test, T.run_sub, T.run_ret, T.run_fail]
   rw [if_pos (qd c0), if_pos (qd c1), Nat.zero_add, qe, hx, qa, hb, qa]
   simp only [and_self, decide_true, if_true, h16, qa, w1]
   cases b <;> cases hasD (dOf x) (d0, d1) <;> simp)
  (fun b hs => by simp [zcy, T.run])
  true trivial
 simp only [ka] at h
 simp only [z6r]
 rw [h.1]
 have e : ∀ (l : List (List Int)) (b : Bool), l.foldl (fun b r => b && hasD (dOf r) (d0, d1)) b = (b && l.all fun r => hasD (dOf r) (d0, d1)) := by
  intro l
  induction l with
  | nil => intro b; simp
  | cons x l ih => intro b; rw [List.foldl_cons, ih, List.all_cons, Bool.and_assoc]
 rw [e, Bool.true_and]
theorem zaw1 (first : List Dg) (all : List (List Int)) (h9 : first.length ≤ 9) (hl : all.length < 1000000) (hq : ∀ r ∈ all, r.length < 4611686018427387904) :
  zalz (((), ((), ((), ((first.length : Int), (0 : Int))))), (all, ([], first))) = some ((), first.filter fun d => all.all fun r => hasD (dOf r) d) := by
 have h := zbm (step := fun v => (zdv v).run) (xs := first) (fun k (s : List Dg) => s.length ≤ k) (fun k s => (((), ((), ((), ((first.length : Int), (k : Int))))), (all, (s, first)))) (fun s d => if (all.all fun r => hasD (dOf r) d) = true then s ++ [d] else s) (fun s => ((), s))
  (fun k s x hP hx => by
   have hlt := zai hx
   refine ⟨?_, by
    split
    ·rw [ql, List.length_singleton]; omega
    ·omega⟩
   have c0 : (k : Int) < (first.length : Int) := by omega
   have c1 : (0 : Int) ≤ (k : Int) ∧ (k : Int) < (first.length : Int) := by omega
   have w1 : w64 ((k : Int) + 1) = ((k + 1 : Nat) : Int) := by rw [zae (by omega) (by omega)]; omega
   have h11 := zaw2 x all s first (first.length : Int) (k : Int) hl hq
   obtain ⟨x0, x1⟩ := x
   simp only [zdv, T.run_test, T.run_sub, T.run_ret, T.run_fail]
   rw [if_pos (qd c0), if_pos (qd c1), Nat.zero_add, qe, hx, qa]
   simp only [and_self, decide_true, if_true, h11, qa, w1]
   have hset : (List.replicate 1 ((0 : Int), (0 : Int))).set 0 (x0, x1) = [(x0, x1)] := rfl
   have hwin : win [(x0, x1)] 0 1 = [(x0, x1)] := rfl
   have c2 : 2 * ((s.length + 1) * 17) ≤ 140737488355328 := by omega
   cases (all.all fun r => hasD (dOf r) (x0, x1)) with
   | false => simp
   | true => simp [hset, hwin, zap, c2])
  (fun b hs => by simp [zdv, T.run])
  [] (qi _)
 simp only [ka] at h
 simp only [zalz]
 rw [h.1]
 have e : ∀ (l s : List Dg), l.foldl (fun s d => if (all.all fun r => hasD (dOf r) d) = true then s ++ [d] else s) s = s ++ l.filter fun d => all.all fun r => hasD (dOf r) d := by
  intro l
  induction l with
  | nil => intro s; simp
  | cons x l ih =>
   intro s
   rw [List.foldl_cons, ih, List.filter_cons]
   split <;> simp
 rw [e, qw]
theorem zaur (t : List (List Int)) : ∀ (l : List Dg), t.foldl (fun out r => out.filter (hasD (dOf r))) l = l.filter fun d => t.all fun r => hasD (dOf r) d := by
 induction t with
 | nil => intro l; exact (List.filter_eq_self.2 fun _ _ => rfl).symm
 | cons r t ih =>
  intro l
  rw [List.foldl_cons, ih, List.filter_filter]
  congr 1
  funext d
  rw [List.all_cons, Bool.and_comm]
theorem zbhe (p : List Int) (hl : p.length < 4611686018427387904) : F67 p = some (((), (sdR p).1), (sdR p).2) := by
 rw [F67, za98, T.run_sub, zqw p hl, qa, T.run_test]
 unfold sdR
 have hm : ∀ q ∈ (solR p).2, q.length = p.length ∧ p.length ≤ 9 := fun q h => zfl h
 have h3 := zmi p
 generalize solR p = r at *
 obtain ⟨ok, l⟩ := r
 simp only at hm h3
 cases ok with
 | false => simp [T.run]
 | true =>
  cases l with
  | nil => simp [T.run]
  | cons q t =>
   have hq := hm q (by simp)
   obtain ⟨b, hb⟩ := zac3 q (by omega)
   have hd := znt q
   have h7 := zaw1 (dOf q) (q :: t) hd (by omega) (fun r hr => by have := hm r hr; omega)
   have c1 : (0 : Int) ≤ (0 : Int) ∧ (0 : Int) < ((q :: t).length : Int) := by rw [qk]; omega
   have c0 : (((q :: t).length : Int) == 0) = false := by rw [beq_eq_false_iff_ne, qk]; omega
   simp only [T.run_test, T.run_sub, T.run_ret, T.run_fail]
   rw [if_neg (by simp), if_neg (by rw [c0]; simp), if_pos (qd (by exact c1)), kk, qa, hb, qa, if_pos (by simp), if_pos (by simp), if_pos (by simp), h7, qa, if_pos (by simp)]
   have e : ((dOf q).filter fun d => (q :: t).all fun r => hasD (dOf r) d) = t.foldl (fun out r => out.filter (hasD (dOf r))) (dOf q) := by
    rw [zaur]
    apply List.filter_congr
    intro d hd
    rw [List.all_cons]
    have : hasD (dOf q) d = true := List.any_eq_true.2 ⟨d, hd, (zs6 d d).2 rfl⟩
    rw [this, Bool.true_and]
   rw [e]
def z5z : FSh := ⟨[(.ag [(.sl (.int .i64) false false)])], []⟩
def zm6 : LSh := ⟨(fun ex => match ex with | .norm => (nz [5, 17, 18, 19]) | .exit i => if i = 0 then [] else [] | .ret => (nz [2, 3, 4])), [(5, qo4), (17, qo5), (18, qo1), (19, qo1)], [qr1], [⟨.ret, [(2, qo1), (3, qo1), (4, qo2)], []⟩, ⟨(.exit 0), [], []⟩], [], []⟩
def zb7 : ((Unit × List Int × Int × Int) × List Int) → T (((Unit × List Int × Int × Int) × List Int) ⊕ ((Int × Int × Bool) ⊕ Unit)) := fun (((), t17, t18, t19), sure) =>(.test (decide (t19 < t18)) (.test (decide ((0 ≤ t19) ∧ (t19 < (t17.length : Int)))) (.sub (t17[(Int.toNat t19)]?) fun z0 =>(.test (z0 == 0) (.test (decide ((0 ≤ t19) ∧ (t19 < (sure.length : Int)))) (.sub (sure[(0 + (Int.toNat t19))]?) fun z1 =>(.test (decide (z1 > 0)) (.test (decide ((0 ≤ t19) ∧ (t19 < (sure.length : Int)))) (.sub (sure[(0 + (Int.toNat t19))]?) fun z2 =>(.ret (Sum.inr (Sum.inl (t19, (z2, true)))))) .fail) (qz sure (.ret (Sum.inl (((), (t17, (t18, (w64 (t19 + 1))))), sure)))))) .fail) (qz sure (.ret (Sum.inl (((), (t17, (t18, (w64 (t19 + 1))))), sure)))))) .fail) (.ret (Sum.inr (Sum.inr ()))))
def zqs (v) := zav (fun v => (zb7 v).run) v
def z5y : List FO := [⟨[(.one (.si .i64)), (.one (.si .i64)), (.one .sb)], []⟩]
def zah6 : List Int → T (Int × Int × Bool) := fun p_0 =>(.sub (F77 p_0) fun z0 =>(.test (! z0.1.2) (.ret ((0 : Int), ((0 : Int), false))) (qz z0.2 (.sub (zqs (((), (p_0, ((p_0.length : Int), (0 : Int)))), z0.2)) fun z1 =>(.test (Sum.isLeft z1) (.sub (Sum.getLeft? z1) fun z2 =>(.ret (z2.1, (z2.2.1, z2.2.2)))) (.sub (Sum.getRight? z1) fun z3 =>(.ret ((0 : Int), ((0 : Int), false)))))))))
def F127 (v) := (zah6 v).run
def zah4 : TEnv := (E0.add1 za1f z9v z9u F77)
theorem z8l : (zah4).OK := (E0ok.add1 za3y)
def z0l : Nat → Option zal := fun id => if id = 5 then some (LSh.told zm6 0 (zb7)) else none
theorem zadp : zan Tryz.prog 0 (zad (zac zy2) [0]) (LSh.told zm6 0 (zb7)) :=
 zak (E := zah4) (z8l) (told := z0l) (l := zm6) (step := zb7) (zab (ls := []) (by kernel_rfl) trivial) (by kernel_rfl) (fun v => by kernel_rfl)
theorem za69 : FOK Tryz.prog zas2 z5z z5y F127 :=
 zao (E := zah4) (z8l) (told := z0l) (fl := []) (c := zac zy2) (s := z5z) (l := z5y) (tree := zah6) zarb (by kernel_rfl) (by kernel_rfl) (by kernel_rfl) (zab (ls := [zad (zac zy2) [0]]) (by kernel_rfl) ⟨.inr ⟨_, by kernel_rfl, zadp⟩, trivial⟩) (fun v => by kernel_rfl)
theorem zah5 (p s : List Int) (hl : p.length < 1000) (hs : s.length = p.length) : zqs (((), (p, ((p.length : Int), (0 : Int)))), s) = some (match zaes p s with | some j => .inl ((j : Int), (s.getD j 0, true)) | none => .inr ()) := by
 have key : ∀ m k, k + m = p.length → zqs (((), (p, ((p.length : Int), (k : Int)))), s) = some (match ((List.range p.length).drop k).find? (fun j => p.getD j 0 == 0 && decide (s.getD j 0 > 0)) with | some j => .inl ((j : Int), (s.getD j 0, true)) | none => .inr ()) := by
  intro m
  induction m with
  | zero =>
   intro k hk
   have : k = p.length := by omega
   subst this
   rw [ke (by simp)]
   simp only [zqs]
   exact zag (by simp [zb7, T.run])
  | succ m ih =>
   intro k hk
   have hlt : k < p.length := by omega
   have ih := ih (k + 1) (by omega)
   have c0 : (k : Int) < (p.length : Int) := by omega
   have c1 : (0 : Int) ≤ (k : Int) ∧ (k : Int) < (p.length : Int) := by omega
   have c2 : (0 : Int) ≤ (k : Int) ∧ (k : Int) < (s.length : Int) := by omega
   have w1 : w64 ((k : Int) + 1) = ((k + 1 : Nat) : Int) := by rw [zae (by omega) (by omega)]; omega
   have g1 := za8 hlt
   have g2 := za8 (l := s) (p := k) (by omega)
   rw [qm (l := List.range p.length) (i := k) (by simpa using hlt), List.find?_cons, List.getElem_range]
   simp only [zqs] at ih ⊢
   cases hz : p.getD k 0 == 0 with
   | false =>
    simp only [Bool.false_and]
    rw [← ih]
    refine zah ?_
    simp only [zb7, T.run, c0, c1, decide_true, if_true, and_self, true_and, qe, g1, qa, hz, qj, if_false, w1]
   | true =>
    by_cases hp : s.getD k 0 > 0
    ·simp only [hp, decide_true, Bool.and_self]
     refine zag ?_
     simp only [zb7, T.run, c0, c1, c2, decide_true, if_true, and_self, true_and, qe, Nat.zero_add, g1, g2, qa, hz, hp]
    ·simp only [hp, decide_false, Bool.and_false]
     rw [← ih]
     refine zah ?_
     simp only [zb7, T.run, c0, c1, c2, decide_true, if_true, and_self, true_and, qe, Nat.zero_add, g1, g2, qa, hz, hp, decide_false, qj, if_false, w1]
 have h := key p.length 0 (by omega)
 rw [List.drop_zero, ka] at h
 exact h
theorem za68 (p : List Int) (hl : p.length < 4611686018427387904) : F127 p = some (z2w p) := by
 have h0 := za3x p hl
 rw [F127, zah6, T.run_sub, h0, qa, T.run_test]
 unfold z2w
 have h1 := zfi (p := p)
 have h2 := zacw (p := p)
 generalize surR p = r at *
 obtain ⟨ok, s⟩ := r
 cases ok with
 | false => simp [T.run]
 | true =>
  have h1 := h1 rfl
  have h2 := h2 rfl
  have hf := zah5 p s (by omega) h1
  simp only [Bool.not_true, qj, if_false, T.run_test, T.run_sub, T.run_ret, T.run_fail, and_self, decide_true, if_true, hf, qa]
  cases zaes p s with
  | none => simp
  | some j => simp
def z54 : FSh := ⟨[(.ag [(.sl (.int .i64) false false)])], []⟩
def zm7 : LSh := ⟨(fun ex => match ex with | .norm => (nz [1, 16, 17, 18]) | .exit i => if i = 0 then [] else [] | .ret => (nz [2, 3, 4])), [(1, qo3), (16, qo9), (17, qo1), (18, qo1)], [(.rcd 0 [(.sl (.int .i64) false false)]), qr1], [⟨.ret, [(2, qo1), (3, qo1), (4, qo2)], []⟩, ⟨(.exit 0), [], []⟩], [], []⟩
def zb8 : ((Unit × Unit × Int × Int) × (List Int × List Int)) → T (((Unit × Unit × Int × Int) × (List Int × List Int)) ⊕ ((Int × Int × Bool) ⊕ Unit)) := fun (((), (), t17, t18), (p_0, t16)) =>(.test (decide (t18 < t17)) (.test (decide ((0 ≤ t18) ∧ (t18 < (t16.length : Int)))) (.sub (t16[(0 + (Int.toNat t18))]?) fun z0 =>(.test (decide ((0 ≤ t18) ∧ (t18 < (p_0.length : Int)))) (.sub (p_0[(Int.toNat t18)]?) fun z1 =>(.test (z1 == 0) (.test (decide (z0 > 0)) (.ret (Sum.inr (Sum.inl (t18, (z0, true))))) (qz t16 (.ret (Sum.inl (((), ((), (t17, (w64 (t18 + 1))))), (p_0, t16)))))) (qz t16 (.ret (Sum.inl (((), ((), (t17, (w64 (t18 + 1))))), (p_0, t16))))))) .fail)) .fail) (.ret (Sum.inr (Sum.inr ()))))
def zqt (v) := zav (fun v => (zb8 v).run) v
def z52 : List FO := [⟨[(.one (.si .i64)), (.one (.si .i64)), (.one .sb)], []⟩]
def zah9 : List Int → T (Int × Int × Bool) := fun p_0 =>(.sub (F126 p_0) fun z0 =>(.test (! z0.1.2) (.ret ((0 : Int), ((0 : Int), false))) (qz z0.2 (.sub (zqt (((), ((), ((z0.2.length : Int), (0 : Int)))), (p_0, z0.2))) fun z1 =>(.test (Sum.isLeft z1) (.sub (Sum.getLeft? z1) fun z2 =>(.ret (z2.1, (z2.2.1, z2.2.2)))) (.sub (Sum.getRight? z1) fun z3 =>(.ret ((0 : Int), ((0 : Int), false)))))))))
def F128 (v) := (zah9 v).run
def zah7 : TEnv := (E0.add1 zab4 zxp zxo F126)
theorem z8m : (zah7).OK := (E0ok.add1 zah2)
def z0m : Nat → Option zal := fun id => if id = 5 then some (LSh.told zm7 0 (zb8)) else none
theorem zadq : zan Tryz.prog 0 (zad (zac zy3) [0]) (LSh.told zm7 0 (zb8)) :=
 zak (E := zah7) (z8m) (told := z0m) (l := zm7) (step := zb8) (zab (ls := []) (by kernel_rfl) trivial) (by kernel_rfl) (fun v => by kernel_rfl)
theorem za7b : FOK Tryz.prog zas3 z54 z52 F128 :=
 zao (E := zah7) (z8m) (told := z0m) (fl := []) (c := zac zy3) (s := z54) (l := z52) (tree := zah9) zarc (by kernel_rfl) (by kernel_rfl) (by kernel_rfl) (zab (ls := [zad (zac zy3) [0]]) (by kernel_rfl) ⟨.inr ⟨_, by kernel_rfl, zadq⟩, trivial⟩) (fun v => by kernel_rfl)
theorem zah8 (p s : List Int) (hl : p.length < 1000) (hs : s.length = p.length) : zqt (((), ((), ((s.length : Int), (0 : Int)))), (p, s)) = some (match zaes p s with | some j => .inl ((j : Int), (s.getD j 0, true)) | none => .inr ()) := by
 have key : ∀ m k, k + m = p.length → zqt (((), ((), ((s.length : Int), (k : Int)))), (p, s)) = some (match ((List.range p.length).drop k).find? (fun j => p.getD j 0 == 0 && decide (s.getD j 0 > 0)) with | some j => .inl ((j : Int), (s.getD j 0, true)) | none => .inr ()) := by
  intro m
  induction m with
  | zero =>
   intro k hk
   have : k = p.length := by omega
   subst this
   rw [ke (by simp)]
   simp only [zqt]
   exact zag (by simp [zb8, T.run, hs])
  | succ m ih =>
   intro k hk
   have hlt : k < p.length := by omega
   have ih := ih (k + 1) (by omega)
   have c0 : (k : Int) < (s.length : Int) := by omega
   have c1 : (0 : Int) ≤ (k : Int) ∧ (k : Int) < (p.length : Int) := by omega
   have c2 : (0 : Int) ≤ (k : Int) ∧ (k : Int) < (s.length : Int) := by omega
   have w1 : w64 ((k : Int) + 1) = ((k + 1 : Nat) : Int) := by rw [zae (by omega) (by omega)]; omega
   have g1 := za8 hlt
   have g2 := za8 (l := s) (p := k) (by omega)
   rw [qm (l := List.range p.length) (i := k) (by simpa using hlt), List.find?_cons, List.getElem_range]
   simp only [zqt] at ih ⊢
   cases hz : p.getD k 0 == 0 with
   | false =>
    simp only [Bool.false_and]
    rw [← ih]
    refine zah ?_
    simp only [zb8, T.run, c0, c1, c2, decide_true, if_true, and_self, true_and, qe, Nat.zero_add, g1, g2, qa, hz, qj, if_false, w1]
   | true =>
    by_cases hp : s.getD k 0 > 0
    ·simp only [hp, decide_true, Bool.and_self]
     refine zag ?_
     simp only [zb8, T.run, c0, c1, c2, decide_true, if_true, and_self, true_and, qe, Nat.zero_add, g1, g2, qa, hz, hp]
    ·simp only [hp, decide_false, Bool.and_false]
     rw [← ih]
     refine zah ?_
     simp only [zb8, T.run, c0, c1, c2, decide_true, if_true, and_self, true_and, qe, Nat.zero_add, g1, g2, qa, hz, hp, decide_false, qj, if_false, w1]
 have h := key p.length 0 (by omega)
 rw [List.drop_zero, ka] at h
 exact h
theorem za7a (p : List Int) (hl : p.length < 4611686018427387904) : F128 p = some (z2w p) := by
 have h0 := zah1 p hl
 rw [F128, zah9, T.run_sub, h0, qa, T.run_test]
 unfold z2w
 have h1 := zfi (p := p)
 have h2 := zacw (p := p)
 generalize surR p = r at *
 obtain ⟨ok, s⟩ := r
 cases ok with
 | false => simp [T.run]
 | true =>
  have h1 := h1 rfl
  have h2 := h2 rfl
  have hf := zah8 p s (by omega) h1
  simp only [Bool.not_true, qj, if_false, T.run_test, T.run_sub, T.run_ret, T.run_fail, and_self, decide_true, if_true, hf, qa]
  cases zaes p s with
  | none => simp
  | some j => simp
def z49 : FSh := ⟨[(.ag [(.sl (.int .i64) false false)])], []⟩
def zms : LSh := ⟨(fun ex => match ex with | .norm => (nz [4, 11, 12, 13]) | .exit i => if i = 0 then (nz [4]) else [] | .ret => (nz [2, 3])), [(4, qo1), (11, qo5), (12, qo1), (13, qo1)], [], [⟨(.exit 0), [(4, qo1)], []⟩], [], []⟩
def zcl : (Int × List Int × Int × Int) → T ((Int × List Int × Int × Int) ⊕ Int) := fun (count, t11, t12, t13) =>(.test (decide (t13 < t12)) (.test (decide ((0 ≤ t13) ∧ (t13 < (t11.length : Int)))) (.sub (t11[(Int.toNat t13)]?) fun z0 =>(.test (z0 == 0) (.ret (Sum.inl ((w64 (count + 1)), (t11, (t12, (w64 (t13 + 1))))))) (.ret (Sum.inl (count, (t11, (t12, (w64 (t13 + 1))))))))) .fail) (.ret (Sum.inr count)))
def z47 (v) := zav (fun v => (zcl v).run) v
def z48 : List FO := [⟨[(.one (.si .i64)), (.one .sb)], []⟩]
def zage : List Int → T (Int × Bool) := fun p_0 =>(.sub (F109 p_0) fun z0 =>(.test (! z0) (.ret ((0 : Int), false)) (.sub (z47 ((0 : Int), (p_0, ((p_0.length : Int), (0 : Int))))) fun z1 =>(.ret (z1, true)))))
def F106 (v) := (zage v).run
def zagd : TEnv := (E0.add1 zl5 zhg zhf F109)
theorem z8a : (zagd).OK := (E0ok.add1 zkc)
def z0f : Nat → Option zal := fun id => if id = 5 then some (LSh.told zms 0 (zcl)) else none
theorem zadc : zan Tryz.prog 0 (zad (zac zyx) [0]) (LSh.told zms 0 (zcl)) :=
 zak (E := zagd) (z8a) (told := z0f) (l := zms) (step := zcl) (zab (ls := []) (by kernel_rfl) trivial) (by kernel_rfl) (fun v => by kernel_rfl)
theorem za6m : FOK Tryz.prog zass z49 z48 F106 :=
 zao (E := zagd) (z8a) (told := z0f) (fl := []) (c := zac zyx) (s := z49) (l := z48) (tree := zage) zaqs (by kernel_rfl) (by kernel_rfl) (by kernel_rfl) (zab (ls := [zad (zac zyx) [0]]) (by kernel_rfl) ⟨.inr ⟨_, by kernel_rfl, zadc⟩, trivial⟩) (fun v => by kernel_rfl)
theorem zadb (l : List Int) (hl : l.length < 4611686018427387904) : z47 (0, l, (l.length : Int), 0) = some (gaps l) := by
 have h := zbm (step := fun v => (zcl v).run) (xs := l) (fun (k : Nat) (s : Int) => 0 ≤ s ∧ s ≤ k) (fun k s => (s, l, (l.length : Int), (k : Int))) (fun c x => if x == 0 then c + 1 else c) (fun s => s)
  (fun k s x hP hx => by
   have hk := zai hx
   simp only [zcl, T.run, qa, qe, hx]
   rw [zae (by omega) (by omega), zae (by omega) (by omega)]
   cases x == 0 <;> simp [hk] <;> omega)
  (fun s hP => by simp [zcl, T.run]) 0 (by omega)
 simp only [z47]
 simp only [ka] at h
 rw [h.1, z2r]
 simp
theorem za6l (l : List Int) (hl : l.length < 4611686018427387904) : F106 l = some (if isPz l then gaps l else 0, isPz l) := by
 simp only [F106, zage, T.run, zkb l hl, qa, zadb l hl]
 cases isPz l <;> simp
def z5c : FSh := ⟨[(.ag [(.sl (.int .i64) false false)])], []⟩
def zmt : LSh := ⟨(fun ex => match ex with | .norm => (nz [4, 11, 12, 13]) | .exit i => if i = 0 then (nz [4]) else [] | .ret => (nz [2, 3])), [(4, qo1), (11, qo5), (12, qo1), (13, qo1)], [], [⟨(.exit 0), [(4, qo1)], []⟩], [], []⟩
def zcm : (Int × List Int × Int × Int) → T ((Int × List Int × Int × Int) ⊕ Int) := fun (n, t11, t12, t13) =>(.test (decide (t13 < t12)) (.test (decide ((0 ≤ t13) ∧ (t13 < (t11.length : Int)))) (.sub (t11[(Int.toNat t13)]?) fun z0 =>(.test (z0 == 0) (.ret (Sum.inl ((w64 (n + 1)), (t11, (t12, (w64 (t13 + 1))))))) (.ret (Sum.inl (n, (t11, (t12, (w64 (t13 + 1))))))))) .fail) (.ret (Sum.inr n)))
def z5a (v) := zav (fun v => (zcm v).run) v
def z5b : List FO := [⟨[(.one (.si .i64)), (.one .sb)], []⟩]
def zagg : List Int → T (Int × Bool) := fun p_0 =>(.sub (F123 p_0) fun z0 =>(.test (! z0) (.ret ((0 : Int), false)) (.sub (z5a ((0 : Int), (p_0, ((p_0.length : Int), (0 : Int))))) fun z1 =>(.ret (z1, true)))))
def F107 (v) := (zagg v).run
def zagf : TEnv := (E0.add1 zpb zh9 zh8 F123)
theorem z8b : (zagf).OK := (E0ok.add1 zm0)
def z0g : Nat → Option zal := fun id => if id = 5 then some (LSh.told zmt 0 (zcm)) else none
theorem zade : zan Tryz.prog 0 (zad (zac zyy) [0]) (LSh.told zmt 0 (zcm)) :=
 zak (E := zagf) (z8b) (told := z0g) (l := zmt) (step := zcm) (zab (ls := []) (by kernel_rfl) trivial) (by kernel_rfl) (fun v => by kernel_rfl)
theorem za6o : FOK Tryz.prog zast z5c z5b F107 :=
 zao (E := zagf) (z8b) (told := z0g) (fl := []) (c := zac zyy) (s := z5c) (l := z5b) (tree := zagg) zaqt (by kernel_rfl) (by kernel_rfl) (by kernel_rfl) (zab (ls := [zad (zac zyy) [0]]) (by kernel_rfl) ⟨.inr ⟨_, by kernel_rfl, zade⟩, trivial⟩) (fun v => by kernel_rfl)
theorem zadd (l : List Int) (hl : l.length < 4611686018427387904) : z5a (0, l, (l.length : Int), 0) = some (gaps l) := by
 have h := zbm (step := fun v => (zcm v).run) (xs := l) (fun (k : Nat) (s : Int) => 0 ≤ s ∧ s ≤ k) (fun k s => (s, l, (l.length : Int), (k : Int))) (fun c x => if x == 0 then c + 1 else c) (fun s => s)
  (fun k s x hP hx => by
   have hk := zai hx
   simp only [zcm, T.run, qa, qe, hx]
   rw [zae (by omega) (by omega), zae (by omega) (by omega)]
   cases x == 0 <;> simp [hk] <;> omega)
  (fun s hP => by simp [zcm, T.run]) 0 (by omega)
 simp only [z5a]
 simp only [ka] at h
 rw [h.1, z2r]
 simp
theorem za6n (l : List Int) (hl : l.length < 4611686018427387904) : F107 l = some (if isPz l then gaps l else 0, isPz l) := by
 simp only [F107, zagg, T.run, zmz l hl, qa, zadd l hl]
 cases isPz l <;> simp
def za4b : FSh := ⟨[.one (.si .i64)], []⟩
def za4a : List FO := [⟨[.one .ss], []⟩]
def F93 (x : Int) : Option (List UInt8) := if -9223372036854775808 ≤ x ∧ x ≤ 9223372036854775807 then some (Lib.itoa x) else none
def zanu : Shelf.Ren := ⟨fun k => if k = 171 then 87 else if k = 243 then 123 else if k = 246 then 153 else if k = 283 then 176 else if k = 284 then 177 else if k = 285 then 178 else if k = 286 then 179 else if k = 129 then 143 else if k = 317 then 186 else if k = 318 then 187 else if k = 319 then 188 else if k = 320 then 189 else if k = 337 then 191 else if k = 338 then 192 else k, fun k => if k = 3 then 3 else if k = 9 then 9 else if k = 2 then 2 else if k = 4 then 4 else if k = 171 then 175 else if k = 0 then 0 else if k = 53 then 75 else if k = 37 then 22 else if k = 5 then 5 else if k = 173 then 177 else if k = 212 then 186 else if k = 51 then 145 else if k = 20 then 20 else if k = 213 then 187 else if k = 46 then 110 else if k = 232 then 189 else if k = 233 then 190 else k, fun k => if k = 17 then 3 else if k = 18 then 4 else if k = 19 then 5 else k⟩
theorem zbbr : LaysM.n171 Tryz.prog zanu :=
 { mixed := by kernel_rfl, f129 := by kernel_rfl, f171 := by kernel_rfl, f243 := by kernel_rfl, f246 := by kernel_rfl, f283 := by kernel_rfl, f284 := by kernel_rfl, f285 := by kernel_rfl, f286 := by kernel_rfl, f317 := by kernel_rfl, f318 := by kernel_rfl, f319 := by kernel_rfl, f320 := by kernel_rfl, f337 := by kernel_rfl, f338 := by kernel_rfl, t0 := by kernel_rfl, a0 := fun w => by kernel_rfl, z0 := fun w => by kernel_rfl, v0 := fun w => by kernel_rfl, t2 := by kernel_rfl, a2 := fun w => by kernel_rfl, z2 := fun w => by kernel_rfl, v2 := fun w => by kernel_rfl, t3 := by kernel_rfl, a3 := fun w => by kernel_rfl, z3 := fun w => by kernel_rfl, v3 := fun w => by kernel_rfl, t4 := by kernel_rfl, a4 := fun w => by kernel_rfl, z4 := fun w => by kernel_rfl, v4 := fun w => by kernel_rfl, t5 := by kernel_rfl, a5 := fun w => by kernel_rfl, z5 := fun w => by kernel_rfl, v5 := fun w => by kernel_rfl, t9 := by kernel_rfl, a9 := fun w => by kernel_rfl, z9 := fun w => by kernel_rfl, v9 := fun w => by kernel_rfl, t20 := by kernel_rfl, a20 := fun w => by kernel_rfl, z20 := fun w => by kernel_rfl, v20 := fun w => by kernel_rfl, t37 := by kernel_rfl, a37 := fun w => by kernel_rfl, z37 := fun w => by kernel_rfl, v37 := fun w => by kernel_rfl, t46 := by kernel_rfl, a46 := fun w => by kernel_rfl, z46 := fun w => by kernel_rfl, v46 := fun w => by kernel_rfl, t51 := by kernel_rfl, a51 := fun w => by kernel_rfl, z51 := fun w => by kernel_rfl, v51 := fun w => by kernel_rfl, t53 := by kernel_rfl, a53 := fun w => by kernel_rfl, z53 := fun w => by kernel_rfl, v53 := fun w => by kernel_rfl, t171 := by kernel_rfl, a171 := fun w => by kernel_rfl, z171 := fun w => by kernel_rfl, v171 := fun w => by kernel_rfl, t173 := by kernel_rfl, a173 := fun w => by kernel_rfl, z173 := fun w => by kernel_rfl, v173 := fun w => by kernel_rfl, t212 := by kernel_rfl, a212 := fun w => by kernel_rfl, z212 := fun w => by kernel_rfl, v212 := fun w => by kernel_rfl, t213 := by kernel_rfl, a213 := fun w => by kernel_rfl, z213 := fun w => by kernel_rfl, t232 := by kernel_rfl, a232 := fun w => by kernel_rfl, z232 := fun w => by kernel_rfl, v232 := fun w => by kernel_rfl, t233 := by kernel_rfl, a233 := fun w => by kernel_rfl, z233 := fun w => by kernel_rfl, v233 := fun w => by kernel_rfl, g17 := by kernel_rfl, g18 := by kernel_rfl, g19 := by kernel_rfl, i0 := by kernel_rfl, i2 := by kernel_rfl, i3 := by kernel_rfl, i4 := by kernel_rfl, i5 := by kernel_rfl, i9 := by kernel_rfl, i20 := by kernel_rfl, i37 := by kernel_rfl, i46 := by kernel_rfl, i51 := by kernel_rfl, i53 := by kernel_rfl, i171 := by kernel_rfl, i173 := by kernel_rfl, i212 := by kernel_rfl, i232 := by kernel_rfl, i233 := by kernel_rfl, m17 := by kernel_rfl, m18 := by kernel_rfl, m19 := by kernel_rfl }
theorem zbin : FOK Tryz.prog zbee za4b za4a F93 :=
 zz8 ⟨_, za0l, by kernel_rfl, by kernel_rfl⟩ (ρr := zanu) rfl zbbr (by kernel_rfl) (.head _)
def za4d : FSh := ⟨[.one (.rw 0 0), .one .ss], [.row 0 .str]⟩
def za4c : List FO := [⟨[.one .ss], [.row 0 .str]⟩]
def F94 (v : (Unit × List UInt8) × List (List UInt8)) : Option (List UInt8 × List (List UInt8)) := if v.2.length ≤ 140737488355328 ∧ (Lib.join v.2 v.1.2).length ≤ 140737488355328 then some (Lib.join v.2 v.1.2, v.2) else none
def z61 : Shelf.Ren := ⟨fun k => if k = 156 then 88 else if k = 165 then 118 else if k = 166 then 120 else if k = 169 then 122 else if k = 240 then 149 else if k = 241 then 150 else if k = 276 then 170 else if k = 277 then 171 else k, fun k => if k = 31 then 94 else if k = 9 then 9 else if k = 3 then 3 else if k = 4 then 4 else if k = 0 then 0 else if k = 20 then 20 else if k = 72 then 120 else if k = 76 then 124 else if k = 70 then 118 else if k = 37 then 22 else if k = 75 then 123 else if k = 127 then 151 else if k = 164 then 168 else if k = 5 then 5 else if k = 80 then 128 else k, fun k => k⟩
theorem zbbt : Lays.n156 Tryz.prog z61 :=
 { mixed := by kernel_rfl, f156 := by kernel_rfl, f165 := by kernel_rfl, f166 := by kernel_rfl, f169 := by kernel_rfl, f240 := by kernel_rfl, f241 := by kernel_rfl, f276 := by kernel_rfl, f277 := by kernel_rfl, t0 := by kernel_rfl, a0 := fun w => by kernel_rfl, z0 := fun w => by kernel_rfl, v0 := fun w => by kernel_rfl, t3 := by kernel_rfl, a3 := fun w => by kernel_rfl, z3 := fun w => by kernel_rfl, v3 := fun w => by kernel_rfl, t4 := by kernel_rfl, a4 := fun w => by kernel_rfl, z4 := fun w => by kernel_rfl, v4 := fun w => by kernel_rfl, t9 := by kernel_rfl, a9 := fun w => by kernel_rfl, z9 := fun w => by kernel_rfl, v9 := fun w => by kernel_rfl, t20 := by kernel_rfl, a20 := fun w => by kernel_rfl, z20 := fun w => by kernel_rfl, v20 := fun w => by kernel_rfl, t31 := by kernel_rfl, a31 := fun w => by kernel_rfl, z31 := fun w => by kernel_rfl, v31 := fun w => by kernel_rfl, t37 := by kernel_rfl, a37 := fun w => by kernel_rfl, z37 := fun w => by kernel_rfl, v37 := fun w => by kernel_rfl, t70 := by kernel_rfl, a70 := fun w => by kernel_rfl, z70 := fun w => by kernel_rfl, v70 := fun w => by kernel_rfl, t72 := by kernel_rfl, a72 := fun w => by kernel_rfl, z72 := fun w => by kernel_rfl, v72 := fun w => by kernel_rfl, t75 := by kernel_rfl, a75 := fun w => by kernel_rfl, z75 := fun w => by kernel_rfl, v75 := fun w => by kernel_rfl, t76 := by kernel_rfl, a76 := fun w => by kernel_rfl, z76 := fun w => by kernel_rfl, v76 := fun w => by kernel_rfl, t127 := by kernel_rfl, a127 := fun w => by kernel_rfl, z127 := fun w => by kernel_rfl, v127 := fun w => by kernel_rfl, t164 := by kernel_rfl, a164 := fun w => by kernel_rfl, z164 := fun w => by kernel_rfl, v164 := fun w => by kernel_rfl }
theorem zbbs : Builder.Extra Tryz.prog z61 :=
 { sizeBuilder := by kernel_rfl, liesBuilder := by kernel_rfl, t5 := by kernel_rfl, a5 := fun w => by kernel_rfl, z5 := fun w => by kernel_rfl, v5 := fun w => by kernel_rfl, infoByte := by kernel_rfl, cellsByte := by kernel_rfl, sizeByte := by kernel_rfl, neB5 := by decide }
theorem zbio : FOK Tryz.prog za1m za4d za4c F94 :=
 zafm ⟨_, za0m, by kernel_rfl, by kernel_rfl⟩ (ρr := z61) rfl zbbt zbbs
def zam7 : FSh := ⟨[(.one (.sl (.int .i64) false false)), (.one .ss)], []⟩
def zrn : LSh := ⟨(fun ex => match ex with | .norm => (nz [1, 5, 9, 10, 11]) | .exit i => if i = 0 then (nz [1, 5]) else [] | .ret => (nz [4])), [(1, qo6), (5, qo4), (9, qo5), (10, qo1), (11, qo1)], [(.row 0 .str)], [⟨(.exit 0), [(1, qo6), (5, qo4)], [(.row 0 .str)]⟩], [], []⟩
def ze6 : ((List UInt8 × Unit × List Int × Int × Int) × List (List UInt8)) → T (((List UInt8 × Unit × List Int × Int × Int) × List (List UInt8)) ⊕ ((List UInt8 × Unit) × List (List UInt8))) := fun ((sign, (), t9, t10, t11), words) =>(.test (decide (t11 < t10)) (.test (decide ((0 ≤ t11) ∧ (t11 < (t9.length : Int)))) (.sub (t9[(Int.toNat t11)]?) fun z0 =>(.sub (F93 z0) fun z1 =>(.test (decide (1 ≤ (List.length (List.set (List.replicate 1 ([] : List (UInt8))) 0 z1)))) (.test (decide ((0 + words.length) ≤ words.length)) (.test (decide ((2 * ((words.length + (List.length (win (List.set (List.replicate 1 ([] : List (UInt8))) 0 z1) 0 1))) * 17)) ≤ 140737488355328)) (.test (decide ((0 = 0) ∧ ((words.length + (List.length (win (List.set (List.replicate 1 ([] : List (UInt8))) 0 z1) 0 1))) = (List.length ((win words 0 words.length) ++ (win (List.set (List.replicate 1 ([] : List (UInt8))) 0 z1) 0 1)))))) (.ret (Sum.inl ((sign, ((), (t9, (t10, (w64 (t11 + 1)))))), ((win words 0 words.length) ++ (win (List.set (List.replicate 1 ([] : List (UInt8))) 0 z1) 0 1))))) .fail) .fail) .fail) .fail))) .fail) (qz words (.ret (Sum.inr ((sign, ()), words)))))
def z9w (v) := zav (fun v => (ze6 v).run) v
def zam6 : List FO := [⟨[(.one .ss)], []⟩]
def zba0 : (List Int × List UInt8) → T (List UInt8) := fun (list, sign) =>(.test true (.sub (z9w ((sign, ((), (list, ((list.length : Int), (0 : Int))))), (List.replicate 0 ([] : List (UInt8))))) fun z0 =>(qz z0.2 (.sub (F94 (((), z0.1.1), z0.2)) fun z1 =>(.ret z1.1)))) .fail)
def F81 (v) := (zba0 v).run
def zbaz : TEnv := ((E0.add1 zbee za4b za4a F93).add1 za1m za4d za4c F94)
theorem zam3 : (zbaz).OK := ((E0ok.add1 zbin).add1 zbio)
def z9x : Nat → Option zal := fun id => if id = 3 then some (LSh.told zrn 0 (ze6)) else none
theorem zam5 : zan Tryz.prog 0 (zad (zac zabj) [0]) (LSh.told zrn 0 (ze6)) :=
 zak (E := zbaz) (zam3) (told := z9x) (l := zrn) (step := ze6) (zab (ls := []) (by kernel_rfl) trivial) (by kernel_rfl) (fun v => by kernel_rfl)
theorem zbh0 : FOK Tryz.prog zbd9 zam7 zam6 F81 :=
 zao (E := zbaz) (zam3) (told := z9x) (fl := []) (c := zac zabj) (s := zam7) (l := zam6) (tree := zba0) zaz9 (by kernel_rfl) (by kernel_rfl) (by kernel_rfl) (zab (ls := [zad (zac zabj) [0]]) (by kernel_rfl) ⟨.inr ⟨_, by kernel_rfl, zam5⟩, trivial⟩) (fun v => by kernel_rfl)
theorem zam4 (p : List Int) (sign : List UInt8) (hl : p.length ≤ 1000) (hp : ∀ x ∈ p, -9223372036854775808 ≤ x ∧ x ≤ 9223372036854775807) : ∀ (m k : Nat) (out : List (List UInt8)), k + m = p.length → out.length = k →
  z9w ((sign, ((), (p, ((p.length : Int), (k : Int))))), out) = some ((sign, ()), out ++ (p.drop k).map Lib.itoa) := by
 intro m
 induction m with
 | zero =>
  intro k out hk ho
  rw [ke (by omega)]
  simp only [z9w]
  refine zag ?_
  rw [ze6, T.run_test, if_neg (by rw [kf]; omega), T.run_test, if_pos (by simp), T.run_ret]
  simp
 | succ m ih =>
  intro k out hk ho
  have hlt : k < p.length := by omega
  have hx := hp p[k] (List.getElem_mem hlt)
  have w1 : w64 ((k : Int) + 1) = ((k + 1 : Nat) : Int) := by rw [zae (by omega) (by omega)]; omega
  have ih := ih (k + 1) (out ++ [Lib.itoa p[k]]) (by omega) (by simp [ho])
  have hone : win (List.set (List.replicate 1 ([] : List UInt8)) 0 (Lib.itoa p[k])) 0 1 = [Lib.itoa p[k]] := rfl
  have hi : F93 p[k] = some (Lib.itoa p[k]) := by unfold F93; rw [if_pos hx]
  rw [qm hlt, qu]
  simp only [z9w] at ih ⊢
  rw [show out ++ Lib.itoa p[k] :: ((p.drop (k + 1)).map Lib.itoa) = out ++ [Lib.itoa p[k]] ++ ((p.drop (k + 1)).map Lib.itoa) by simp, ← ih]
  refine zah ?_
  rw [ze6, T.run_test, if_pos (qd (by omega)), T.run_test, if_pos (qd (by omega)), T.run_sub, qe, qb hlt, qa, T.run_sub, hi, qa, T.run_test, if_pos (by simp), T.run_test, if_pos (by simp), hone, zap,
   T.run_test, if_pos (qd (by simp only [qk, qq]; omega)), T.run_test, if_pos (by simp), T.run_ret, w1]
theorem zbhz (p : List Int) (sign : List UInt8) (hl : p.length ≤ 1000) (hp : ∀ x ∈ p, -9223372036854775808 ≤ x ∧ x ≤ 9223372036854775807) (hj : (Lib.join (p.map Lib.itoa) sign).length ≤ 140737488355328) :
  F81 (p, sign) = some (Lib.join (p.map Lib.itoa) sign) := by
 have hL := zam4 p sign hl hp p.length 0 [] (by omega) rfl
 rw [ka, List.drop_zero, qw] at hL
 have hJ : F94 (((), sign), p.map Lib.itoa) = some (Lib.join (p.map Lib.itoa) sign, p.map Lib.itoa) := by
  unfold F94
  rw [if_pos ⟨by simp only [km]; omega, hj⟩]
 rw [F81, zba0, T.run_test, if_pos rfl, T.run_sub, List.replicate_zero, hL, qa, T.run_test, if_pos (by simp), T.run_sub, hJ, qa, T.run_ret]
def za3a : FSh := ⟨[.one .ss, .one .ss, .one .ss], []⟩
def za29 : List FO := [⟨[.one .ss], []⟩]
def F40 (v : List UInt8 × List UInt8 × List UInt8) : Option (List UInt8) := if v.1.length < 4294967281 ∧ 1 ≤ v.2.1.length ∧ v.2.2.length ≤ v.2.1.length then some (Lib.replaceAll v.1 v.2.1 v.2.2) else none
def z6n : Shelf.Ren := ⟨fun k => if k = 155 then 52 else if k = 154 then 86 else if k = 138 then 117 else if k = 165 then 118 else if k = 143 then 119 else if k = 166 then 120 else if k = 197 then 121 else if k = 169 then 122 else if k = 195 then 147 else if k = 218 then 148 else if k = 240 then 149 else if k = 241 then 150 else if k = 219 then 151 else if k = 260 then 152 else if k = 276 then 170 else if k = 277 then 171 else if k = 217 then 172 else if k = 225 then 173 else if k = 224 then 174 else if k = 267 then 175 else if k = 266 then 184 else if k = 314 then 185 else k, fun k => if k = 9 then 9 else if k = 3 then 3 else if k = 4 then 4 else if k = 72 then 120 else if k = 0 then 0 else if k = 76 then 124 else if k = 105 then 126 else if k = 21 then 21 else if k = 5 then 5 else if k = 70 then 118 else if k = 20 then 20 else if k = 37 then 22 else if k = 75 then 123 else if k = 127 then 151 else if k = 164 then 168 else if k = 46 then 110 else if k = 119 then 171 else if k = 139 then 174 else if k = 138 then 173 else if k = 146 then 164 else if k = 51 then 145 else if k = 80 then 128 else k, fun k => if k = 1 then 0 else if k = 3 then 1 else if k = 4 then 2 else k⟩
theorem za8q : Lays.n155 Tryz.prog z6n :=
 { mixed := by kernel_rfl, f138 := by kernel_rfl, f143 := by kernel_rfl, f154 := by kernel_rfl, f155 := by kernel_rfl, f165 := by kernel_rfl, f166 := by kernel_rfl, f169 := by kernel_rfl, f195 := by kernel_rfl, f197 := by kernel_rfl, f217 := by kernel_rfl, f218 := by kernel_rfl, f219 := by kernel_rfl, f224 := by kernel_rfl, f225 := by kernel_rfl, f240 := by kernel_rfl, f241 := by kernel_rfl, f260 := by kernel_rfl, f266 := by kernel_rfl, f267 := by kernel_rfl, f276 := by kernel_rfl, f277 := by kernel_rfl, f314 := by kernel_rfl, t0 := by kernel_rfl, a0 := fun w => by kernel_rfl, z0 := fun w => by kernel_rfl, v0 := fun w => by kernel_rfl, t3 := by kernel_rfl, a3 := fun w => by kernel_rfl, z3 := fun w => by kernel_rfl, v3 := fun w => by kernel_rfl, t4 := by kernel_rfl, a4 := fun w => by kernel_rfl, z4 := fun w => by kernel_rfl, v4 := fun w => by kernel_rfl, t5 := by kernel_rfl, a5 := fun w => by kernel_rfl, z5 := fun w => by kernel_rfl, v5 := fun w => by kernel_rfl, t9 := by kernel_rfl, a9 := fun w => by kernel_rfl, z9 := fun w => by kernel_rfl, v9 := fun w => by kernel_rfl, t20 := by kernel_rfl, a20 := fun w => by kernel_rfl, z20 := fun w => by kernel_rfl, v20 := fun w => by kernel_rfl, t21 := by kernel_rfl, a21 := fun w => by kernel_rfl, z21 := fun w => by kernel_rfl, v21 := fun w => by kernel_rfl, t37 := by kernel_rfl, a37 := fun w => by kernel_rfl, z37 := fun w => by kernel_rfl, v37 := fun w => by kernel_rfl, t46 := by kernel_rfl, a46 := fun w => by kernel_rfl, z46 := fun w => by kernel_rfl, v46 := fun w => by kernel_rfl, t51 := by kernel_rfl, a51 := fun w => by kernel_rfl, z51 := fun w => by kernel_rfl, v51 := fun w => by kernel_rfl, t70 := by kernel_rfl, a70 := fun w => by kernel_rfl, z70 := fun w => by kernel_rfl, v70 := fun w => by kernel_rfl, t72 := by kernel_rfl, a72 := fun w => by kernel_rfl, z72 := fun w => by kernel_rfl, v72 := fun w => by kernel_rfl, t75 := by kernel_rfl, a75 := fun w => by kernel_rfl, z75 := fun w => by kernel_rfl, v75 := fun w => by kernel_rfl, t76 := by kernel_rfl, a76 := fun w => by kernel_rfl, z76 := fun w => by kernel_rfl, v76 := fun w => by kernel_rfl, t105 := by kernel_rfl, a105 := fun w => by kernel_rfl, z105 := fun w => by kernel_rfl, v105 := fun w => by kernel_rfl, t119 := by kernel_rfl, a119 := fun w => by kernel_rfl, z119 := fun w => by kernel_rfl, t127 := by kernel_rfl, a127 := fun w => by kernel_rfl, z127 := fun w => by kernel_rfl, v127 := fun w => by kernel_rfl, t138 := by kernel_rfl, a138 := fun w => by kernel_rfl, z138 := fun w => by kernel_rfl, v138 := fun w => by kernel_rfl, t139 := by kernel_rfl, a139 := fun w => by kernel_rfl, z139 := fun w => by kernel_rfl, v139 := fun w => by kernel_rfl, t146 := by kernel_rfl, a146 := fun w => by kernel_rfl, z146 := fun w => by kernel_rfl, v146 := fun w => by kernel_rfl, t164 := by kernel_rfl, a164 := fun w => by kernel_rfl, z164 := fun w => by kernel_rfl, v164 := fun w => by kernel_rfl, g1 := by kernel_rfl, g3 := by kernel_rfl, g4 := by kernel_rfl }
theorem za8p : Builder.Extra Tryz.prog z6n :=
 { sizeBuilder := by kernel_rfl, liesBuilder := by kernel_rfl, t5 := by kernel_rfl, a5 := fun w => by kernel_rfl, z5 := fun w => by kernel_rfl, v5 := fun w => by kernel_rfl, infoByte := by kernel_rfl, cellsByte := by kernel_rfl, sizeByte := by kernel_rfl, neB5 := by decide }
theorem zbf6 : FOK Tryz.prog zbdj za3a za29 F40 :=
 zpv ⟨_, zay4, by kernel_rfl, by kernel_rfl⟩ (ρr := z6n) rfl za8q za8p (by decide)
theorem zu4 (c : UInt8) (v : List UInt8) : Lib.index (c :: v) [c] = 0 := by
 refine Lib.index_first (i := 0) (Nat.zero_le _) ?_ (fun j h => absurd h (Nat.not_lt_zero _))
 simp [Lib.occAt]
theorem ztf {c d : UInt8} (h : d ≠ c) (v : List UInt8) : Lib.index (d :: v) [c] = if Lib.index v [c] == -1 then -1 else Lib.index v [c] + 1 := by
 have hn : Lib.NoOcc (d :: v) [c] 1 := by
  intro j hj
  have : j = 0 := by omega
  subst this
  show (c == d && List.isPrefixOf [] v) = false
  rw [beq_eq_false_iff_ne.2 (Ne.symm h)]; rfl
 have := Lib.index_drop (s := d :: v) (sub := [c]) (i := 1) hn (by simp)
 rw [List.drop_one, List.tail_cons] at this
 exact this
theorem zach : ∀ s : List UInt8, Lib.replaceK [48] [46] (Lib.count s [48]) s = s.map (fun b => if b = 48 then 46 else b)
 | [] => by
  have : Lib.index [] [48] = -1 := Lib.index_none (fun j hj => by
   have : j = 0 := by simpa using hj
   subst this; rfl)
  rw [Lib.count_miss this]; rfl
 | c :: v => by
  have ih := zach v
  by_cases hc : c = 48
  ·subst hc
   have h0 := zu4 48 v
   have h1 := Lib.count_hit (s := 48 :: v) (sub := [48]) (i := 0) (by simp) h0
   rw [h1, Nat.add_comm, Lib.replaceK_hit [48] [46] _ _ 0 h0]
   simp only [List.take_zero, qw, qk, qq, Nat.zero_add, List.drop_one, List.tail_cons, ih, qu, if_true]
   rfl
  ·have h0 := ztf hc v
   by_cases hm : Lib.index v [48] = -1
   ·rw [hm] at h0
    have h0 : Lib.index (c :: v) [48] = -1 := h0
    rw [Lib.count_miss hm] at ih
    rw [Lib.count_miss h0, qu, if_neg hc]
    show c :: v = _
    rw [← ih]; rfl
   ·have hge := Lib.index_ge v [48]
    obtain ⟨i, hi⟩ : ∃ i : Nat, Lib.index v [48] = i := ⟨(Lib.index v [48]).toNat, by omega⟩
    rw [if_neg (by simpa using hm), hi] at h0
    have h0 : Lib.index (c :: v) [48] = ((i + 1 : Nat) : Int) := by rw [h0]; omega
    have e1 := Lib.count_hit (s := c :: v) (sub := [48]) (by simp) h0
    have e2 := Lib.count_hit (s := v) (sub := [48]) (by simp) hi
    rw [e2, Nat.add_comm, Lib.replaceK_hit [48] [46] _ _ i hi] at ih
    rw [e1, Nat.add_comm, Lib.replaceK_hit [48] [46] _ _ (i + 1) h0, qu, if_neg hc, ← ih]
    simp only [List.take_succ_cons, List.cons_append, qk, qq, Nat.zero_add, List.drop_succ_cons]
theorem zu8 (s : List UInt8) : Lib.replaceAll s [48] [46] = s.map (fun b => if b = 48 then 46 else b) := by
 unfold Lib.replaceAll Lib.replace Lib.replaceNum
 rw [if_neg (by decide), if_pos (Or.inl (by decide)), zach]
theorem z2z : ∀ xs : List (List UInt8), Lib.join xs [] = xs.flatten := by
 intro xs
 unfold Lib.join
 induction xs with
 | nil => rfl
 | cons x r ih =>
  cases r with
  | nil => simp [List.intercalate]
  | cons y r => simp only [List.intercalate, List.intersperse] at ih ⊢; simp [ih]
def pzT (p : List Int) : List UInt8 := p.map fun x => if x = 0 then 46 else UInt8.ofNat (48 + x.toNat)
theorem za1t {p : List Int} (h : ∀ x ∈ p, 0 ≤ x ∧ x ≤ 9) : Lib.replaceAll (Lib.join (p.map fun x => Lib.decDigits x.toNat) []) [48] [46] = pzT p := by
 rw [zu8, z2z]
 unfold pzT
 induction p with
 | nil => rfl
 | cons x p ih =>
  have ih := ih fun y hy => h y (by simp [hy])
  have hx := h x (by simp)
  rw [qu, List.flatten_cons, List.map_append, ih, qu, Lib.decDigits_one (by omega)]
  have : x = 0 ∨ x = 1 ∨ x = 2 ∨ x = 3 ∨ x = 4 ∨ x = 5 ∨ x = 6 ∨ x = 7 ∨ x = 8 ∨ x = 9 := by omega
  rcases this with rfl | rfl | rfl | rfl | rfl | rfl | rfl | rfl | rfl | rfl <;> rfl
def zki : FSh := ⟨[(.one (.si .i64))], []⟩
def zkh : List FO := [⟨[(.one .ss)], []⟩]
def zait (recv : Int → Option (List UInt8)) : Int → T (List UInt8) := fun n =>
 (.test (decide (n < 10))
 (.test (decide (1 ≤ (List.length (List.set (List.replicate 1 (0 : Int)) 0 (wu8 (w64 (48 + n)))))))
 (.ret (List.map (fun z => UInt8.ofNat z.toNat) (win (List.set (List.replicate 1 (0 : Int)) 0 (wu8 (w64 (48 + n)))) 0 1)))
 .fail)
 (.test true
 (.sub (recv (w64 (Int.tdiv n (10 : Int)))) fun z0 =>
 (.test true
 (.test (decide (1 ≤ (List.length (List.set (List.replicate 1 (0 : Int)) 0 (wu8 (w64 (48 + (Int.tmod n (10 : Int)))))))))
 (.test (decide ((z0.length + (List.length (List.map (fun z => UInt8.ofNat z.toNat) (win (List.set (List.replicate 1 (0 : Int)) 0 (wu8 (w64 (48 + (Int.tmod n (10 : Int)))))) 0 1)))) ≤ 140737488355328))
 (.ret (z0 ++ (List.map (fun z => UInt8.ofNat z.toNat) (win (List.set (List.replicate 1 (0 : Int)) 0 (wu8 (w64 (48 + (Int.tmod n (10 : Int)))))) 0 1))))
 .fail)
 .fail)
 .fail))
 .fail))
def zvf (recv : Int → Option (List UInt8)) (v : Int) : Option (List UInt8) := (zait recv v).run
def F140 : Int → Option (List UInt8) := recF zvf
def za2v (recv : Int → Option (List UInt8)) : TEnv := (E0.add1 ztr zki zkh recv)
theorem zavu (recv : Int → Option (List UInt8)) (hrec : FOK Tryz.prog ztr zki zkh recv) : (za2v recv).OK := (E0ok.add1 hrec)
def zaiu (recv : Int → Option (List UInt8)) : Nat → Option zal := fun id => none
theorem zavv (recv : Int → Option (List UInt8)) (hrec : FOK Tryz.prog ztr zki zkh recv) : FOK Tryz.prog ztr zki zkh (zvf recv) :=
 zao (E := za2v recv) (zavu recv hrec) (told := zaiu recv) (fl := []) (c := zac zaqi) (s := zki) (l := zkh) (tree := zait recv) zarj (by kernel_rfl) (by kernel_rfl) (by kernel_rfl) (zab (ls := []) (by kernel_rfl) trivial) (fun v => by kernel_rfl)
theorem za7l : FOK Tryz.prog ztr zki zkh F140 := FOK.rec (fun F h => zavv F h) zmb
theorem zadw {x : Int} (h : 0 ≤ x ∧ x ≤ 9) : F140 x = some [UInt8.ofNat (48 + x.toNat)] := by
 have key : ∀ k, 0 < k → recN zvf k x = some [UInt8.ofNat (48 + x.toNat)] := by
  intro k hk
  match k, hk with
  | k + 1, _ =>
   show zvf (recN zvf k) x = _
   rw [zvf, zait, T.run_test, if_pos (qd (by omega)), T.run_test, if_pos (by simp), T.run_ret]
   have : x = 0 ∨ x = 1 ∨ x = 2 ∨ x = 3 ∨ x = 4 ∨ x = 5 ∨ x = 6 ∨ x = 7 ∨ x = 8 ∨ x = 9 := by omega
   rcases this with rfl | rfl | rfl | rfl | rfl | rfl | rfl | rfl | rfl | rfl <;> rfl
 exact key zmb (by decide)
def zaaf : FSh := ⟨[(.ag [(.sl (.int .i64) false false)])], []⟩
def zru : LSh := ⟨(fun ex => match ex with | .norm => (nz [4, 11, 12, 13]) | .exit i => if i = 0 then (nz [4]) else [] | .ret => (nz [2, 3])), [(4, qo6), (11, qo5), (12, qo1), (13, qo1)], [], [⟨(.exit 0), [(4, qo6)], []⟩], [], []⟩
def zd3 : (List UInt8 × List Int × Int × Int) → T ((List UInt8 × List Int × Int × Int) ⊕ List UInt8) := fun (out, t11, t12, t13) =>(.test (decide (t13 < t12)) (.test (decide ((0 ≤ t13) ∧ (t13 < (t11.length : Int)))) (.sub (t11[(Int.toNat t13)]?) fun z0 =>(.test (z0 == 0) (.test (decide ((out.length + 1) ≤ 140737488355328)) (.ret (Sum.inl ((out ++ [(46 : UInt8)]), (t11, (t12, (w64 (t13 + 1))))))) .fail) (.sub (F140 z0) fun z1 =>(.test (decide ((out.length + z1.length) ≤ 140737488355328)) (.ret (Sum.inl ((out ++ z1), (t11, (t12, (w64 (t13 + 1))))))) .fail)))) .fail) (.ret (Sum.inr out)))
def z1a (v) := zav (fun v => (zd3 v).run) v
def zaae : List FO := [⟨[(.one .ss), (.one .sb)], []⟩]
def zbbv : List Int → T (List UInt8 × Bool) := fun p_0 =>(.sub (F123 p_0) fun z0 =>(.test (! z0) (.ret (([] : List (UInt8)), false)) (.sub (z1a (([] : List (UInt8)), (p_0, ((p_0.length : Int), (0 : Int))))) fun z1 =>(.ret (z1, true)))))
def F95 (v) := (zbbv v).run
def zbbu : TEnv := ((E0.add1 zpb zh9 zh8 F123).add1 ztr zki zkh F140)
theorem zanv : (zbbu).OK := ((E0ok.add1 zm0).add1 za7l)
def zaag : Nat → Option zal := fun id => if id = 5 then some (LSh.told zru 0 (zd3)) else none
theorem zanx : zan Tryz.prog 0 (zad (zac zabm) [0]) (LSh.told zru 0 (zd3)) :=
 zak (E := zbbu) (zanv) (told := zaag) (l := zru) (step := zd3) (zab (ls := []) (by kernel_rfl) trivial) (by kernel_rfl) (fun v => by kernel_rfl)
theorem za4f : FOK Tryz.prog za1n zaaf zaae F95 :=
 zao (E := zbbu) (zanv) (told := zaag) (fl := []) (c := zac zabm) (s := zaaf) (l := zaae) (tree := zbbv) za0n (by kernel_rfl) (by kernel_rfl) (by kernel_rfl) (zab (ls := [zad (zac zabm) [0]]) (by kernel_rfl) ⟨.inr ⟨_, by kernel_rfl, zanx⟩, trivial⟩) (fun v => by kernel_rfl)
theorem zanw (p : List Int) (hl : p.length ≤ 100) (hp : ∀ x ∈ p, 0 ≤ x ∧ x ≤ 9) : ∀ (m k : Nat) (out : List UInt8), k + m = p.length → out.length ≤ k →
  z1a (out, (p, ((p.length : Int), (k : Int)))) = some (out ++ pzT (p.drop k)) := by
 intro m
 induction m with
 | zero =>
  intro k out hk ho
  rw [ke (by omega)]
  simp only [z1a]
  refine zag ?_
  rw [zd3, T.run_test, if_neg (by rw [kf]; omega), T.run_ret]
  simp [pzT]
 | succ m ih =>
  intro k out hk ho
  have hlt : k < p.length := by omega
  have hx := hp p[k] (List.getElem_mem hlt)
  have w1 : w64 ((k : Int) + 1) = ((k + 1 : Nat) : Int) := by rw [zae (by omega) (by omega)]; omega
  have hd : pzT (p.drop k) = (if p[k] = 0 then 46 else UInt8.ofNat (48 + p[k].toNat)) :: pzT (p.drop (k + 1)) := by rw [qm hlt]; rfl
  by_cases h0 : p[k] = 0
  ·have ih := ih (k + 1) (out ++ [46]) (by omega) (by simp; omega)
   rw [hd, if_pos h0]
   simp only [z1a] at ih ⊢
   rw [show out ++ 46 :: pzT (p.drop (k + 1)) = out ++ [46] ++ pzT (p.drop (k + 1)) by simp, ← ih]
   refine zah ?_
   rw [zd3, T.run_test, if_pos (qd (by omega)), T.run_test, if_pos (qd (by omega)), T.run_sub, qe, qb hlt, qa, T.run_test, if_pos (by rw [h0]; rfl), T.run_test, if_pos (qd (by omega)), T.run_ret, w1]
  ·have ih := ih (k + 1) (out ++ [UInt8.ofNat (48 + p[k].toNat)]) (by omega) (by simp; omega)
   rw [hd, if_neg h0]
   simp only [z1a] at ih ⊢
   rw [show out ++ UInt8.ofNat (48 + p[k].toNat) :: pzT (p.drop (k + 1)) = out ++ [UInt8.ofNat (48 + p[k].toNat)] ++ pzT (p.drop (k + 1)) by simp, ← ih]
   refine zah ?_
   rw [zd3, T.run_test, if_pos (qd (by omega)), T.run_test, if_pos (qd (by omega)), T.run_sub, qe, qb hlt, qa, T.run_test, if_neg (by rw [beq_iff_eq]; exact h0), T.run_sub, zadw hx, qa, T.run_test, if_pos (qd (by simp only [qk, qq]; omega)), T.run_ret, w1]
theorem zzh {p : List Int} (h : isPz p = true) : p.length ≤ 9 ∧ ∀ x ∈ p, 0 ≤ x ∧ x ≤ 9 := by
 have hl := zdk h
 unfold isPz at h
 rw [qo, qt] at h
 refine ⟨hl.2, fun x hx => ?_⟩
 have := h.2 x hx
 rw [zay] at this
 omega
theorem za4e (p : List Int) (hl : p.length < 4611686018427387904) : F95 p = some (if isPz p then (pzT p, true) else ([], false)) := by
 rw [F95, zbbv, T.run_sub, zmz p hl, qa, T.run_test]
 cases h : isPz p with
 | false => rfl
 | true =>
  obtain ⟨h1, h2⟩ := zzh h
  have hL := zanw p (by omega) h2 p.length 0 [] (by omega) (by simp)
  rw [ka, List.drop_zero, qw] at hL
  rw [if_neg (by simp), T.run_sub, hL, qa, T.run_ret]
  rfl
def zanz : FSh := ⟨[(.ag [(.sl (.int .i64) false false)])], []⟩
def zany : List FO := [⟨[(.one .ss), (.one .sb)], []⟩]
def zbbx : List Int → T (List UInt8 × Bool) := fun p_0 =>(.sub (F109 p_0) fun z0 =>(.test (! z0) (.ret (([] : List (UInt8)), false)) (.sub (F81 (p_0, ([] : List (UInt8)))) fun z1 =>(.sub (F40 (z1, ([(48 : UInt8)], [(46 : UInt8)]))) fun z2 =>(.ret (z2, true))))))
def F96 (v) := (zbbx v).run
def zbip : TEnv := (((E0.add1 zl5 zhg zhf F109).add1 zbd9 zam7 zam6 F81).add1 zbdj za3a za29 F40)
theorem zbbw : (zbip).OK := (((E0ok.add1 zkc).add1 zbh0).add1 zbf6)
def zaxt : Nat → Option zal := fun id => none
theorem zbiq : FOK Tryz.prog zbef zanz zany F96 :=
 zao (E := zbip) (zbbw) (told := zaxt) (fl := []) (c := zac za5x) (s := zanz) (l := zany) (tree := zbbx) za0o (by kernel_rfl) (by kernel_rfl) (by kernel_rfl) (zab (ls := []) (by kernel_rfl) trivial) (fun v => by kernel_rfl)
theorem zaem : ∀ p : List Int, (∀ x ∈ p, 0 ≤ x ∧ x ≤ 9) → (Lib.join (p.map fun x => Lib.decDigits x.toNat) []).length = p.length := by
 intro p h
 rw [z2z]
 induction p with
 | nil => rfl
 | cons x p ih =>
  have ih := ih fun y hy => h y (by simp [hy])
  have hx := h x (by simp)
  rw [qu, List.flatten_cons, ql, ih, Lib.decDigits_one (by omega), qk, qk, qq]
  omega
theorem za4g (p : List Int) (hl : p.length < 4611686018427387904) : F96 p = some (if isPz p then (pzT p, true) else ([], false)) := by
 rw [F96, zbbx, T.run_sub, zkb p hl, qa, T.run_test]
 cases h : isPz p with
 | false => rfl
 | true =>
  obtain ⟨h1, h2⟩ := zzh h
  have hd := zaem p h2
  have hR : F40 (Lib.join (p.map fun x => Lib.decDigits x.toNat) [], ([48], [46])) = some (pzT p) := by
   unfold F40
   rw [if_pos ⟨by simp only; omega, by simp, by simp⟩, za1t h2]
  have hI : p.map Lib.itoa = p.map fun x => Lib.decDigits x.toNat := List.map_congr_left fun x hx => by
   have := h2 x hx
   unfold Lib.itoa
   rw [if_neg (by omega)]
  have hN := zbhz p [] (by omega) (fun x hx => by have := h2 x hx; omega) (by rw [hI]; omega)
  rw [hI] at hN
  rw [if_neg (by simp), T.run_sub, hN, qa, T.run_sub, hR, qa, T.run_ret]
  rfl
def zqz : FSh := ⟨[(.one (.sl (.int .i64) false false)), (.one (.sl (.int .i64) false false))], []⟩
def zne : LSh := ⟨(fun ex => match ex with | .norm => (nz [0, 1, 12, 13]) | .exit i => if i = 0 then [] else [] | .ret => (nz [4])), [(0, qo5), (1, qo5), (12, qo1), (13, qo1)], [], [⟨.ret, [(4, qo2)], []⟩, ⟨(.exit 0), [], []⟩], [], []⟩
def zcw : (List Int × List Int × Int × Int) → T ((List Int × List Int × Int × Int) ⊕ (Bool ⊕ Unit)) := fun (a, b, t12, t13) =>(.test (decide (t13 < t12)) (.test (decide ((0 ≤ t13) ∧ (t13 < (a.length : Int)))) (.sub (a[(Int.toNat t13)]?) fun z0 =>(.test (decide ((0 ≤ t13) ∧ (t13 < (b.length : Int)))) (.sub (b[(Int.toNat t13)]?) fun z1 =>(.test (z0 != z1) (.ret (Sum.inr (Sum.inl false))) (.ret (Sum.inl (a, (b, (t12, (w64 (t13 + 1))))))))) .fail)) .fail) (.ret (Sum.inr (Sum.inr ()))))
def zaiw (v) := zav (fun v => (zcw v).run) v
def zqy : List FO := [⟨[(.one .sb)], []⟩]
def z8t : (List Int × List Int) → T Bool := fun (a, b) =>(.test ((a.length : Int) != (b.length : Int)) (.ret false) (.sub (zaiw (a, (b, ((a.length : Int), (0 : Int))))) fun z0 =>(.test (Sum.isLeft z0) (.sub (Sum.getLeft? z0) fun z1 =>(.ret z1)) (.sub (Sum.getRight? z0) fun z2 =>(.ret true)))))
def F141 (v) := (z8t v).run
def zaiv : TEnv := E0
theorem z8s : (zaiv).OK := E0ok
def z0r : Nat → Option zal := fun id => if id = 4 then some (LSh.told zne 0 (zcw)) else none
theorem zadx : zan Tryz.prog 0 (zad (zac zy7) [0]) (LSh.told zne 0 (zcw)) :=
 zak (E := zaiv) (z8s) (told := z0r) (l := zne) (step := zcw) (zab (ls := []) (by kernel_rfl) trivial) (by kernel_rfl) (fun v => by kernel_rfl)
theorem z6c : FOK Tryz.prog z3l zqz zqy F141 :=
 zao (E := zaiv) (z8s) (told := z0r) (fl := []) (c := zac zy7) (s := zqz) (l := zqy) (tree := z8t) zark (by kernel_rfl) (by kernel_rfl) (by kernel_rfl) (zab (ls := [zad (zac zy7) [0]]) (by kernel_rfl) ⟨.inr ⟨_, by kernel_rfl, zadx⟩, trivial⟩) (fun v => by kernel_rfl)
theorem ziq (a b : List Int) (hl : a.length < 4611686018427387904) : F141 (a, b) = some (decide (a = b)) := by
 by_cases hab : a.length = b.length
 ·have h := zjn (step := fun v => (zcw v).run) (xs := a.zip b) (fun p => p.1 != p.2) (fun k => (a, b, (a.length : Int), (k : Int))) (.inl false) (.inr ())
   (fun k x hx => by
    have hk := zai hx
    rw [List.length_zip, hab, Nat.min_self] at hk
    rw [List.getElem?_zip_eq_some] at hx
    simp only [zcw, T.run, qa, qe, hx.1, hx.2]
    rw [zae (by omega) (by omega)]
    have hka : k < a.length := by omega
    cases x.1 != x.2 <;> simp [hk, hka])
   (by simp [zcw, T.run, hab])
  simp only [F141, z8t, T.run, zaiw]
  simp only [ka] at h
  rw [h, hab]
  have e : (a.zip b).any (fun p => p.1 != p.2) = !decide (a = b) := zot a b hab
  rw [e]
  cases decide (a = b) <;> simp
 ·simp only [F141, z8t, T.run]
  have : a ≠ b := fun e => hab (by rw [e])
  simp [this]
  omega
def z57 : FSh := ⟨[(.one (.sl (.list true (.int .i64)) false false)), (.one (.sl (.list true (.int .i64)) false false))], []⟩
def zm8 : LSh := ⟨(fun ex => match ex with | .norm => (nz [0, 1, 12, 13]) | .exit i => if i = 0 then [] else [] | .ret => (nz [4])), [(0, (.one (.sl (.list true (.int .i64)) false false))), (1, (.one (.sl (.list true (.int .i64)) false false))), (12, qo1), (13, qo1)], [], [⟨.ret, [(4, qo2)], []⟩, ⟨(.exit 0), [], []⟩], [], []⟩
def zd8 : (List (List Int) × List (List Int) × Int × Int) → T ((List (List Int) × List (List Int) × Int × Int) ⊕ (Bool ⊕ Unit)) := fun (a, b, t12, t13) =>(.test (decide (t13 < t12)) (.test (decide ((0 ≤ t13) ∧ (t13 < (a.length : Int)))) (.sub (a[(Int.toNat t13)]?) fun z0 =>(.test (decide ((0 ≤ t13) ∧ (t13 < (b.length : Int)))) (.sub (b[(Int.toNat t13)]?) fun z1 =>(.sub (F141 (z0, z1)) fun z2 =>(.test (! z2) (.ret (Sum.inr (Sum.inl false))) (.ret (Sum.inl (a, (b, (t12, (w64 (t13 + 1)))))))))) .fail)) .fail) (.ret (Sum.inr (Sum.inr ()))))
def zxq (v) := zav (fun v => (zd8 v).run) v
def z56 : List FO := [⟨[(.one .sb)], []⟩]
def zaic : (List (List Int) × List (List Int)) → T Bool := fun (a, b) =>(.test ((a.length : Int) != (b.length : Int)) (.ret false) (.sub (zxq (a, (b, ((a.length : Int), (0 : Int))))) fun z0 =>(.test (Sum.isLeft z0) (.sub (Sum.getLeft? z0) fun z1 =>(.ret z1)) (.sub (Sum.getRight? z0) fun z2 =>(.ret true)))))
def F129 (v) := (zaic v).run
def zaia : TEnv := (E0.add1 z3l zqz zqy F141)
theorem z8n : (zaia).OK := (E0ok.add1 z6c)
def z0n : Nat → Option zal := fun id => if id = 4 then some (LSh.told zm8 0 (zd8)) else none
theorem zadr : zan Tryz.prog 0 (zad (zac zy4) [0]) (LSh.told zm8 0 (zd8)) :=
 zak (E := zaia) (z8n) (told := z0n) (l := zm8) (step := zd8) (zab (ls := []) (by kernel_rfl) trivial) (by kernel_rfl) (fun v => by kernel_rfl)
theorem za7c : FOK Tryz.prog zas4 z57 z56 F129 :=
 zao (E := zaia) (z8n) (told := z0n) (fl := []) (c := zac zy4) (s := z57) (l := z56) (tree := zaic) zard (by kernel_rfl) (by kernel_rfl) (by kernel_rfl) (zab (ls := [zad (zac zy4) [0]]) (by kernel_rfl) ⟨.inr ⟨_, by kernel_rfl, zadr⟩, trivial⟩) (fun v => by kernel_rfl)
theorem zaib (a : List (List Int)) (hl : a.length < 1000000) (hr : ∀ r ∈ a, r.length < 1000000) : F129 (a, a) = some true := by
 have key : ∀ m k, k + m = a.length → zxq (a, (a, ((a.length : Int), (k : Int)))) = some (.inr ()) := by
  intro m
  induction m with
  | zero =>
   intro k hk
   simp only [zxq]
   refine zag ?_
   rw [zd8, T.run_test, if_neg (by rw [kf]; omega), T.run_ret]
  | succ m ih =>
   intro k hk
   have hlt : k < a.length := by omega
   have w1 : w64 ((k : Int) + 1) = ((k + 1 : Nat) : Int) := by rw [zae (by omega) (by omega)]; omega
   have hg : a[k]? = some a[k] := qb _
   have hs := ziq a[k] a[k] (by have := hr _ (List.getElem_mem hlt); omega)
   have := ih (k + 1) (by omega)
   simp only [zxq] at this ⊢
   rw [← this]
   refine zah ?_
   rw [zd8, T.run_test, if_pos (qd (by omega)), T.run_test, if_pos (qd (by omega)), T.run_sub, qe, hg, qa, T.run_test, if_pos (qd (by omega)), T.run_sub, qa, T.run_sub, hs, qa, T.run_test, if_neg (by simp), T.run_ret, w1]
 have h := key a.length 0 (by omega)
 rw [ka] at h
 rw [F129, zaic, T.run_test, if_neg (by simp), T.run_sub, h, qa]
 rfl
theorem zaya {X A : Type} [DecidableEq X] {step : A → Option (A ⊕ (Bool ⊕ Unit))} (a b : List X) (emb : Nat → A) (hab : a.length = b.length)
  (h : ∀ k x y, a[k]? = some x → b[k]? = some y → step (emb k) = if x = y then some (.inl (emb (k + 1))) else some (.inr (.inl false))) (hend : step (emb a.length) = some (.inr (.inr ()))) :
  zav step (emb 0) = some (if a = b then .inr () else .inl false) := by
 have key : ∀ m k, k + m = a.length → zav step (emb k) = some (if a.drop k = b.drop k then .inr () else .inl false) := by
  intro m
  induction m with
  | zero =>
   intro k hk
   rw [ke (by omega), ke (by omega), if_pos rfl, show k = a.length by omega]
   exact zag hend
  | succ m ih =>
   intro k hk
   have h1 : k < a.length := by omega
   have h2 : k < b.length := by omega
   have hs := h k a[k] b[k] (qb h1) (qb h2)
   rw [qm h1, qm h2]
   by_cases e : a[k] = b[k]
   ·rw [if_pos e] at hs
    rw [zah hs, ih (k + 1) (by omega), e]
    by_cases e2 : a.drop (k + 1) = b.drop (k + 1)
    ·rw [if_pos e2, e2, if_pos rfl]
    ·rw [if_neg e2, if_neg fun x => e2 (List.cons.inj x).2]
   ·rw [if_neg e] at hs
    rw [zag hs, if_neg fun x => e (List.cons.inj x).1]
 have := key a.length 0 (by omega)
 rwa [List.drop_zero, List.drop_zero] at this
def z6e : FSh := ⟨[(.one (.sl (.pair (.int .i64) (.int .i64)) false false)), (.one (.sl (.pair (.int .i64) (.int .i64)) false false))], []⟩
def znf : LSh := ⟨(fun ex => match ex with | .norm => (nz [0, 1, 12, 13]) | .exit i => if i = 0 then [] else [] | .ret => (nz [4])), [(0, (.one (.sl (.pair (.int .i64) (.int .i64)) false false))), (1, (.one (.sl (.pair (.int .i64) (.int .i64)) false false))), (12, qo1), (13, qo1)], [], [⟨.ret, [(4, qo2)], []⟩, ⟨(.exit 0), [], []⟩], [], []⟩
def zcx : (List (Int × Int) × List (Int × Int) × Int × Int) → T ((List (Int × Int) × List (Int × Int) × Int × Int) ⊕ (Bool ⊕ Unit)) := fun (a, b, t12, t13) =>(.test (decide (t13 < t12)) (.test (decide ((0 ≤ t13) ∧ (t13 < (a.length : Int)))) (.sub (a[(Int.toNat t13)]?) fun z0 =>(.test (decide ((0 ≤ t13) ∧ (t13 < (b.length : Int)))) (.sub (b[(Int.toNat t13)]?) fun z1 =>(.test (! ((z0.1 == z1.1) && ((z0.2 == z1.2) && true))) (.ret (Sum.inr (Sum.inl false))) (.ret (Sum.inl (a, (b, (t12, (w64 (t13 + 1))))))))) .fail)) .fail) (.ret (Sum.inr (Sum.inr ()))))
def zaiy (v) := zav (fun v => (zcx v).run) v
def z6d : List FO := [⟨[(.one .sb)], []⟩]
def zaiz : (List (Int × Int) × List (Int × Int)) → T Bool := fun (a, b) =>(.test ((a.length : Int) != (b.length : Int)) (.ret false) (.sub (zaiy (a, (b, ((a.length : Int), (0 : Int))))) fun z0 =>(.test (Sum.isLeft z0) (.sub (Sum.getLeft? z0) fun z1 =>(.ret z1)) (.sub (Sum.getRight? z0) fun z2 =>(.ret true)))))
def F143 (v) := (zaiz v).run
def zaix : TEnv := E0
theorem z8u : (zaix).OK := E0ok
def z0s : Nat → Option zal := fun id => if id = 4 then some (LSh.told znf 0 (zcx)) else none
theorem zady : zan Tryz.prog 0 (zad (zac zy8) [0]) (LSh.told znf 0 (zcx)) :=
 zak (E := zaix) (z8u) (told := z0s) (l := znf) (step := zcx) (zab (ls := []) (by kernel_rfl) trivial) (by kernel_rfl) (fun v => by kernel_rfl)
theorem za7m : FOK Tryz.prog zas7 z6e z6d F143 :=
 zao (E := zaix) (z8u) (told := z0s) (fl := []) (c := zac zy8) (s := z6e) (l := z6d) (tree := zaiz) zarl (by kernel_rfl) (by kernel_rfl) (by kernel_rfl) (zab (ls := [zad (zac zy8) [0]]) (by kernel_rfl) ⟨.inr ⟨_, by kernel_rfl, zady⟩, trivial⟩) (fun v => by kernel_rfl)
theorem zapo (a b : List (Int × Int)) (hl : a.length < 4611686018427387904) : F143 (a, b) = some (decide (a = b)) := by
 rw [F143, zaiz, T.run_test]
 by_cases he : a.length = b.length
 ·have h := zaya (step := fun v => (zcx v).run) a b (fun k => (a, (b, ((a.length : Int), (k : Int))))) he
   (fun k x y hx hy => by
    have k1 := zai hx
    have k2 := zai hy
    have w1 : w64 ((k : Int) + 1) = ((k + 1 : Nat) : Int) := by rw [zae (by omega) (by omega)]; omega
    rw [zcx, T.run_test, if_pos (qd (by omega)), T.run_test, if_pos (qd (by omega)), T.run_sub, qe, hx, qa, T.run_test, if_pos (qd (by omega)), T.run_sub, hy, qa, T.run_test]
    by_cases e : x = y
    ·rw [if_neg (by simp [e]), if_pos e, T.run_ret, w1]
    ·rw [if_pos (by
      obtain ⟨x1, x2⟩ := x
      obtain ⟨y1, y2⟩ := y
      simp only [qr] at e
      by_cases e1 : x1 = y1
      ·have e2 : x2 ≠ y2 := fun h => e ⟨e1, h⟩
       simp [e2]
      ·simp [e1]), if_neg e, T.run_ret])
   (by rw [zcx, T.run_test, if_neg (by simp), T.run_ret])
  have h' : zaiy (a, (b, ((a.length : Int), (0 : Int)))) = _ := h
  rw [if_neg (by simp [he]), T.run_sub, h', qa]
  by_cases e : a = b
  ·rw [if_pos e, qd e]; rfl
  ·rw [if_neg e, decide_eq_false e]; rfl
 ·rw [if_pos (by simp; omega), T.run_ret, decide_eq_false fun e => he (by rw [e])]
def z5i : FSh := ⟨[(.ag [(.sl (.int .i64) false false)])], []⟩
def z5h : List FO := [⟨[(.one .sb)], []⟩]
def zagx : List Int → T Bool := fun p_0 =>(.sub (F123 p_0) fun z0 =>(.ret z0))
def F112 (v) := (zagx v).run
def za2f : TEnv := (E0.add1 zpb zh9 zh8 F123)
theorem zave : (za2f).OK := (E0ok.add1 zm0)
def zagy : Nat → Option zal := fun id => none
theorem za6v : FOK Tryz.prog zasw z5i z5h F112 :=
 zao (E := za2f) (zave) (told := zagy) (fl := []) (c := zac zap5) (s := z5i) (l := z5h) (tree := zagx) zaqy (by kernel_rfl) (by kernel_rfl) (by kernel_rfl) (zab (ls := []) (by kernel_rfl) trivial) (fun v => by kernel_rfl)
theorem za6u (l : List Int) (hl : l.length < 4611686018427387904) : F112 l = some (isPz l) := by
 simp only [F112, zagx, T.run, zmz l hl, qa]
def zaai : FSh := ⟨[(.one (.sl (.int .i64) false false))], []⟩
def zaah : List FO := [⟨[(.one .sb)], []⟩]
def zbbz : List Int → T Bool := fun quiddity =>(.sub (F65 quiddity) fun z0 =>(.ret z0.1.2))
def F97 (v) := (zbbz v).run
def zbir : TEnv := (E0.add1 zatg z02 z01 F65)
theorem zbby : (zbir).OK := (E0ok.add1 zals)
def zaxu : Nat → Option zal := fun id => none
theorem za4i : FOK Tryz.prog za1o zaai zaah F97 :=
 zao (E := zbir) (zbby) (told := zaxu) (fl := []) (c := zac za5y) (s := zaai) (l := zaah) (tree := zbbz) za0p (by kernel_rfl) (by kernel_rfl) (by kernel_rfl) (zab (ls := []) (by kernel_rfl) trivial) (fun v => by kernel_rfl)
theorem za4h (l : List Int) (hl : l.length < 4611686018427387904) : F97 l = some (trOf l).isSome := by
 simp only [F97, zbbz, T.run, zalq l hl, qa]
 cases trOf l <;> rfl
def zan1 : FSh := ⟨[(.ag [(.sl (.int .i64) false false)]), (.one (.sl (.int .i64) false false))], []⟩
def zan0 : List FO := [⟨[(.one .sb), (.one .sb)], []⟩]
def zbb1 : (List Int × List Int) → T (Bool × Bool) := fun (p_0, quiddity) =>(.sub (F109 p_0) fun z0 =>(.test (! z0) (.ret (false, false)) (.sub (F97 quiddity) fun z1 =>(.test (! z1) (.ret (false, false)) (.sub (F36 (p_0, quiddity)) fun z2 =>(.ret (z2, true)))))))
def F98 (v) := (zbb1 v).run
def zbis : TEnv := (((E0.add1 zl5 zhg zhf F109).add1 za1o zaai zaah F97).add1 za08 z84 z83 F36)
theorem zbb0 : (zbis).OK := (((E0ok.add1 zkc).add1 za4i).add1 za26)
def zaxv : Nat → Option zal := fun id => none
theorem zbit : FOK Tryz.prog zbeg zan1 zan0 F98 :=
 zao (E := zbis) (zbb0) (told := zaxv) (fl := []) (c := zac za5z) (s := zan1) (l := zan0) (tree := zbb1) za0q (by kernel_rfl) (by kernel_rfl) (by kernel_rfl) (zab (ls := []) (by kernel_rfl) trivial) (fun v => by kernel_rfl)
theorem za4j (p q : List Int) (hl : p.length < 4611686018427387904) (hq : q.length < 4611686018427387904) : F98 (p, q) = some (if isPz p && (trOf q).isSome then (fits p q, true) else (false, false)) := by
 simp only [F98, zbb1, T.run, zkb p hl, za4h q hq, qa, za25 p q hl]
 cases isPz p <;> cases (trOf q).isSome <;> simp
end Go.Proofs.W
