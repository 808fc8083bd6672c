import Derived.Test.YtpkbjabnchfgjaaGreatDoorWPfWk4
noncomputable section
set_option linter.unusedVariables false
set_option linter.unusedSimpArgs false
set_option maxRecDepth 100000
set_option maxHeartbeats 4000000
namespace Go.Proofs.W
open Go Go.Gm Go.Proofs
open Go.RowKit Go.Shelf
def zakl : FSh := ⟨[(.one (.sl (.int .i64) false false))], []⟩
def zakk : List FO := [⟨[(.one (.rw 0 0)), (.one .sb)], [(.row 0 (.pair (.int .i64) (.int .i64)))]⟩]
def za83 : List Int → T ((Unit × Bool) × List (Int × Int)) := fun quiddity =>(.sub (F65 quiddity) fun z0 =>(qz z0.2 (.ret (((), z0.1.2), z0.2))))
def F48 (v) := (za83 v).run
def zbgf : TEnv := (E0.add1 zatg z02 z01 F65)
theorem za82 : (zbgf).OK := (E0ok.add1 zals)
def zawg : Nat → Option zal := fun id => none
theorem zbgh : FOK Tryz.prog zbdn zakl zakk F48 :=
 zao (E := zbgf) (za82) (told := zawg) (fl := []) (c := zac za49) (s := zakl) (l := zakk) (tree := za83) zazc (by kernel_rfl) (by kernel_rfl) (by kernel_rfl) (zab (ls := []) (by kernel_rfl) trivial) (fun v => by kernel_rfl)
theorem zbgg (q : List Int) (hl : q.length < 4611686018427387904) : F48 q = some (match trOf q with | some ds => (((), true), ds) | none => (((), false), [])) := by
 rw [F48, za83, T.run_sub, zalq q hl, qa]
 cases trOf q with
 | none => rfl
 | some ds => rw [T.run_test, if_pos (by simp), T.run_ret]
def z6h : FSh := ⟨[(.one (.sl (.int .i64) false false)), (.one (.sl (.int .i64) false false))], []⟩
def zng : LSh := ⟨(fun ex => match ex with | .norm => (nz [0, 1, 7, 8]) | .exit i => if i = 0 then (nz [0, 1]) else [] | .ret => (nz [4])), [(0, qo5), (1, qo5), (7, qo1), (8, qo1)], [], [⟨.ret, [(4, qo2)], []⟩, ⟨(.exit 0), [(0, qo5), (1, qo5)], []⟩], [], []⟩
def zb9 : (List Int × List Int × Int × Int) → T ((List Int × List Int × Int × Int) ⊕ (Bool ⊕ (List Int × List Int))) := fun (a, b, t7, t8) =>(.test (decide (t8 < t7)) (.test (decide (t8 ≥ (b.length : Int))) (.ret (Sum.inr (Sum.inl false))) (.test (decide ((0 ≤ t8) ∧ (t8 < (a.length : Int)))) (.sub (a[(Int.toNat t8)]?) fun z0 =>(.test (decide ((0 ≤ t8) ∧ (t8 < (b.length : Int)))) (.sub (b[(Int.toNat t8)]?) fun z1 =>(.test (z0 != z1) (.test (decide ((0 ≤ t8) ∧ (t8 < (a.length : Int)))) (.sub (a[(Int.toNat t8)]?) fun z2 =>(.test (decide ((0 ≤ t8) ∧ (t8 < (b.length : Int)))) (.sub (b[(Int.toNat t8)]?) fun z3 =>(.ret (Sum.inr (Sum.inl (decide (z2 < z3)))))) .fail)) .fail) (.ret (Sum.inl (a, (b, (t7, (w64 (t8 + 1))))))))) .fail)) .fail)) (.ret (Sum.inr (Sum.inr (a, b)))))
def z6f (v) := zav (fun v => (zb9 v).run) v
def z6g : List FO := [⟨[(.one .sb)], []⟩]
def zai2 : (List Int × List Int) → T Bool := fun (a, b) =>(.sub (z6f (a, (b, ((a.length : Int), (0 : Int))))) fun z0 =>(.test (Sum.isLeft z0) (.sub (Sum.getLeft? z0) fun z1 =>(.ret z1)) (.sub (Sum.getRight? z0) fun z2 =>(.ret (decide ((z2.1.length : Int) < (z2.2.length : Int)))))))
def F144 (v) := (zai2 v).run
def zai0 : TEnv := E0
theorem z8v : (zai0).OK := E0ok
def z0t : Nat → Option zal := fun id => if id = 2 then some (LSh.told zng 0 (zb9)) else none
theorem zadz : zan Tryz.prog 0 (zad (zac zy9) [0]) (LSh.told zng 0 (zb9)) :=
 zak (E := zai0) (z8v) (told := z0t) (l := zng) (step := zb9) (zab (ls := []) (by kernel_rfl) trivial) (by kernel_rfl) (fun v => by kernel_rfl)
theorem za7o : FOK Tryz.prog zas8 z6h z6g F144 :=
 zao (E := zai0) (z8v) (told := z0t) (fl := []) (c := zac zy9) (s := z6h) (l := z6g) (tree := zai2) zarm (by kernel_rfl) (by kernel_rfl) (by kernel_rfl) (zab (ls := [zad (zac zy9) [0]]) (by kernel_rfl) ⟨.inr ⟨_, by kernel_rfl, zadz⟩, trivial⟩) (fun v => by kernel_rfl)
def zzk : List Int → List Int → Option Bool
 | a :: s, b :: t => if a = b then zzk s t else some (decide (a < b))
 | _ :: _, [] => some false
 | [], _ => none
theorem zasj : ∀ a b : List Int, ltL a b = match zzk a b with | some r => r | none => decide ((a.length : Int) < (b.length : Int))
 | [], [] => rfl
 | [], b :: t => by simp [ltL, zzk] <;> omega
 | a :: s, [] => by simp [ltL, zzk] <;> omega
 | a :: s, b :: t => by
  unfold ltL zzk
  by_cases e : a = b
  ·subst e
   rw [if_neg (by omega), if_neg (by omega), if_pos rfl, zasj s t]
   have : decide (((a :: s).length : Int) < ((a :: t).length : Int)) = decide ((s.length : Int) < (t.length : Int)) := by
    rw [qk, qk, decide_eq_decide]; omega
   rw [this]
  ·rw [if_neg e]
   by_cases h : a < b
   ·rw [if_pos h]; simp [h]
   ·rw [if_neg h, if_pos (by omega)]; simp [h]
theorem zai1 (a b : List Int) (ha : a.length < 4611686018427387904) : ∀ (m i : Nat), i + m = a.length → z6f (a, (b, ((a.length : Int), (i : Int)))) = some (match zzk (a.drop i) (b.drop i) with | some r => .inl r | none => .inr (a, b)) := by
 intro m
 induction m with
 | zero =>
  intro i hi
  rw [ke (show a.length ≤ i by omega)]
  refine zag ?_
  rw [zb9, T.run_test, if_neg (by rw [kf]; omega), T.run_ret]
  rfl
 | succ m ih =>
  intro i hi
  have h1 : i < a.length := by omega
  by_cases h2 : i < b.length
  ·have w1 : w64 ((i : Int) + 1) = ((i + 1 : Nat) : Int) := by rw [zae (by omega) (by omega)]; omega
   rw [qm h1, qm h2]
   generalize hx : a[i] = x
   generalize hy : b[i] = y
   have ga : a[i]? = some x := by rw [qb h1, hx]
   have gb : b[i]? = some y := by rw [qb h2, hy]
   unfold zzk
   by_cases e : x = y
   ·rw [if_pos e, ← ih (i + 1) (by omega)]
    subst e
    refine zah ?_
    rw [zb9, T.run_test, if_pos (qd (by omega)), T.run_test, if_neg (by rw [kf]; omega), T.run_test, if_pos (qd (by omega)), T.run_sub, qe, ga, qa, T.run_test, if_pos (qd (by omega)), T.run_sub, gb, qa, T.run_test, if_neg (by simp), T.run_ret, w1]
   ·rw [if_neg e]
    refine zag ?_
    rw [zb9, T.run_test, if_pos (qd (by omega)), T.run_test, if_neg (by rw [kf]; omega), T.run_test, if_pos (qd (by omega)), T.run_sub, qe, ga, qa, T.run_test, if_pos (qd (by omega)), T.run_sub, gb, qa, T.run_test, if_pos (by simpa using e), T.run_test, if_pos (qd (by omega)), T.run_sub, qa, T.run_test, if_pos (qd (by omega)), T.run_sub, qa, T.run_ret]
  ·rw [ke (show b.length ≤ i by omega)]
   have hn : zzk (a.drop i) [] = some false := by rw [qm h1]; rfl
   rw [hn]
   refine zag ?_
   rw [zb9, T.run_test, if_pos (qd (by omega)), T.run_test, if_pos (qd (by omega)), T.run_ret]
theorem za7n (a b : List Int) (ha : a.length < 4611686018427387904) : F144 (a, b) = some (ltL a b) := by
 have h := zai1 a b ha a.length 0 (by omega)
 rw [List.drop_zero, List.drop_zero] at h
 have h' : z6f (a, (b, ((a.length : Int), (0 : Int)))) = _ := h
 rw [F144, zai2, T.run_sub, h', qa, zasj]
 cases zzk a b <;> rfl
def z9h : FSh := ⟨[(.ag [(.sl (.int .i64) false false)]), (.one (.si .i64))], []⟩
def z9g : List FO := [⟨[(.one .sb)], []⟩]
def za9l : (List Int × Int) → T Bool := fun (p_0, at') =>(.sub (F109 p_0) fun z0 =>(.test z0 (.sub (F122 (at', ((0 : Int), (w64 ((p_0.length : Int) - 1))))) fun z1 =>(.ret z1)) (.ret false)))
def F56 (v) := (za9l v).run
def zbgt : TEnv := ((E0.add1 zl5 zhg zhf F109).add1 zpa zh7 zh6 F122)
theorem za9k : (zbgt).OK := ((E0ok.add1 zkc).add1 zmy)
def zawn : Nat → Option zal := fun id => none
theorem za3m : FOK Tryz.prog za1a z9h z9g F56 :=
 zao (E := zbgt) (za9k) (told := zawn) (fl := []) (c := zac za5d) (s := z9h) (l := z9g) (tree := za9l) zazk (by kernel_rfl) (by kernel_rfl) (by kernel_rfl) (zab (ls := []) (by kernel_rfl) trivial) (fun v => by kernel_rfl)
theorem za3l (l : List Int) (at' : Int) (hl : l.length < 4611686018427387904) : F56 (l, at') = some (isPz l && inB 0 ((l.length : Int) - 1) at') := by
 simp only [F56, za9l, T.run, zkb l hl, qa, zkd]
 rw [zae (z := (l.length : Int) - 1) (by omega) (by omega)]
 cases isPz l <;> simp
def za3r : FSh := ⟨[.one (.nl true true), .one (.si .i64)], []⟩
def za3q : List FO := [⟨[.one (.rw 0 0)], [.row 0 (.int .i64)]⟩]
def F68 (v : Unit × Int) : Option (Unit × List Int) := if 0 ≤ v.2 ∧ v.2 ≤ 1000000000000 ∧ v.2.toNat * 8 ≤ 140737488355328 then some ((), []) else none
def zal3 : Shelf.Ren := ⟨fun _ => za1c, fun t => if t = 0 then 0 else if t = 4 then 4 else if t = 9 then 9 else if t = 20 then 20 else if t = 22 then 24 else 3, fun x => x⟩
theorem za99 : Lays8.n4 Tryz.prog zal3 :=
 { f4 := ⟨"slices.Grow[[]int,int]", by kernel_rfl, by kernel_rfl⟩, mixed := by kernel_rfl, t0 := by kernel_rfl, a0 := fun w => by kernel_rfl, z0 := fun w => by kernel_rfl, v0 := fun w => by kernel_rfl, t3 := by kernel_rfl, a3 := fun w => by kernel_rfl, z3 := fun w => by kernel_rfl, v3 := fun w => by kernel_rfl, t4 := by kernel_rfl, a4 := fun w => by kernel_rfl, z4 := fun w => by kernel_rfl, v4 := fun w => by kernel_rfl, t9 := by kernel_rfl, a9 := fun w => by kernel_rfl, z9 := fun w => by kernel_rfl, v9 := fun w => by kernel_rfl, t20 := by kernel_rfl, a20 := fun w => by kernel_rfl, z20 := fun w => by kernel_rfl, v20 := fun w => by kernel_rfl, t22 := by kernel_rfl, a22 := fun w => by kernel_rfl, z22 := fun w => by kernel_rfl, v22 := fun w => by kernel_rfl }
def zaw3 : TypeInfo := (Tryz.prog.info? 3).get (by kernel_rfl)
theorem zbhg : FOK Tryz.prog za1c za3r za3q F68 :=
 zbcy ⟨_, zazw, by kernel_rfl, by kernel_rfl⟩ (ρr := zal3) rfl za99 (.int .i64) zaw3 (.int .i64 0) (by kernel_rfl) (by kernel_rfl) (by kernel_rfl) (by decide) 8 (by kernel_rfl)
def zakp : FSh := ⟨[(.one (.sl (.list false (.int .i64)) false false))], []⟩
def zq7 : LSh := ⟨(fun ex => match ex with | .norm => (nz [0, 3, 9, 10, 11]) | .exit i => if i = 0 then (nz [0, 3]) else [] | .ret => (nz [2])), [(0, (.one (.sl (.list false (.int .i64)) false false))), (3, qo1), (9, (.one (.sl (.list false (.int .i64)) false false))), (10, qo1), (11, qo1)], [], [⟨(.exit 0), [(0, (.one (.sl (.list false (.int .i64)) false false))), (3, qo1)], []⟩], [], []⟩
def zbv : (List (List Int) × Int × List (List Int) × Int × Int) → T ((List (List Int) × Int × List (List Int) × Int × Int) ⊕ (List (List Int) × Int)) := fun (slices, size, t9, t10, t11) =>(.test (decide (t11 < t10)) (.test (decide ((0 ≤ t11) ∧ (t11 < (t9.length : Int)))) (.sub (t9[(Int.toNat t11)]?) fun z0 =>(.test (decide ((w64 (size + (z0.length : Int))) < 0)) .fail (.ret (Sum.inl (slices, ((w64 (size + (z0.length : Int))), (t9, (t10, (w64 (t11 + 1)))))))))) .fail) (.ret (Sum.inr (slices, size))))
def zakm (v) := zav (fun v => (zbv v).run) v
def znk : LSh := ⟨(fun ex => match ex with | .norm => (nz [6, 25, 26, 27]) | .exit i => if i = 2 then (nz [6]) else [] | .ret => (nz [2])), [(6, qo4), (25, (.one (.sl (.list false (.int .i64)) false false))), (26, qo1), (27, qo1)], [qr1], [⟨(.exit 2), [(6, qo4)], [qr1]⟩], [], []⟩
def zbj : ((Unit × List (List Int) × Int × Int) × List Int) → T (((Unit × List (List Int) × Int × Int) × List Int) ⊕ (Unit × List Int)) := fun (((), t25, t26, t27), newslice) =>(.test (decide (t27 < t26)) (.test (decide ((0 ≤ t27) ∧ (t27 < (t25.length : Int)))) (.sub (t25[(Int.toNat t27)]?) fun z0 =>(.test (decide ((0 + newslice.length) ≤ newslice.length)) (.test (decide ((2 * ((newslice.length + z0.length) * 9)) ≤ 140737488355328)) (.test (decide ((0 = 0) ∧ ((newslice.length + z0.length) = (List.length ((win newslice 0 newslice.length) ++ z0))))) (.ret (Sum.inl (((), (t25, (t26, (w64 (t27 + 1))))), ((win newslice 0 newslice.length) ++ z0)))) .fail) .fail) .fail)) .fail) (qz newslice (.ret (Sum.inr ((), newslice)))))
def z6p (v) := zav (fun v => (zbj v).run) v
def zako : List FO := [⟨[(.one (.rw 0 0))], [qr1]⟩]
def za84 : List (List Int) → T (Unit × List Int) := fun slices =>(.sub (zakm (slices, ((0 : Int), (slices, ((slices.length : Int), (0 : Int)))))) fun z0 =>(.sub (F68 ((), z0.2)) fun z1 =>(qz z1.2 (.sub (z6p (((), (z0.1, ((z0.1.length : Int), (0 : Int)))), z1.2)) fun z2 =>(qz z2.2 (.ret ((), z2.2)))))))
def F49 (v) := (za84 v).run
def zawh : TEnv := (E0.add1 za1c za3r za3q F68)
theorem z6o : (zawh).OK := (E0ok.add1 zbhg)
def zx2 : Nat → Option zal := fun id => if id = 3 then some (LSh.told zq7 0 (zbv)) else if id = 11 then some (LSh.told znk 0 (zbj)) else none
theorem zakn : zan Tryz.prog 0 (zad (zac zvy) [0]) (LSh.told zq7 0 (zbv)) :=
 zak (E := zawh) (z6o) (told := zx2) (l := zq7) (step := zbv) (zab (ls := []) (by kernel_rfl) trivial) (by kernel_rfl) (fun v => by kernel_rfl)
theorem zad2 : zan Tryz.prog 0 (zad (zac zvy) [1]) (LSh.told znk 0 (zbj)) :=
 zak (E := zawh) (z6o) (told := zx2) (l := znk) (step := zbj) (zab (ls := []) (by kernel_rfl) trivial) (by kernel_rfl) (fun v => by kernel_rfl)
theorem zbgi : FOK Tryz.prog zbdo zakp zako F49 :=
 zao (E := zawh) (z6o) (told := zx2) (fl := []) (c := zac zvy) (s := zakp) (l := zako) (tree := za84) zazd (by kernel_rfl) (by kernel_rfl) (by kernel_rfl) (zab (ls := [zad (zac zvy) [0], zad (zac zvy) [1]]) (by kernel_rfl) ⟨.inr ⟨_, by kernel_rfl, zakn⟩, ⟨.inr ⟨_, by kernel_rfl, zad2⟩, trivial⟩⟩) (fun v => by kernel_rfl)
theorem za85 (a b : List Int) (hl : a.length + b.length ≤ 1000) : F49 [a, b] = some ((), a ++ b) := by
 have h3 : zakm ([a, b], ((0 : Int), ([a, b], ((2 : Int), (0 : Int))))) = some ([a, b], ((a.length + b.length : Nat) : Int)) := by
  simp only [zakm]
  have w0 : w64 (a.length : Int) = (a.length : Int) := zae (by omega) (by omega)
  have w1 : w64 (1 : Int) = 1 := zae (by omega) (by omega)
  have w2 : w64 ((a.length : Int) + (b.length : Int)) = ((a.length + b.length : Nat) : Int) := by rw [zae (by omega) (by omega)]; omega
  have w3 : w64 ((1 : Int) + 1) = 2 := zae (by omega) (by omega)
  have c0 : ¬ ((a.length : Int) < 0) := by omega
  have c1 : ¬ (((a.length + b.length : Nat) : Int) < 0) := by omega
  have s1 : (zbv ([a, b], ((0 : Int), ([a, b], ((2 : Int), (0 : Int)))))).run = some (.inl ([a, b], ((a.length : Int), ([a, b], ((2 : Int), (1 : Int)))))) := by
   simp [zbv, T.run, w0, w1, c0]
  have s2 : (zbv ([a, b], ((a.length : Int), ([a, b], ((2 : Int), (1 : Int)))))).run = some (.inl ([a, b], (((a.length + b.length : Nat) : Int), ([a, b], ((2 : Int), (2 : Int)))))) := by
   simp only [zbv, T.run, w2, w3]
   simp [c1]
   omega
  have s3 : (zbv ([a, b], (((a.length + b.length : Nat) : Int), ([a, b], ((2 : Int), (2 : Int)))))).run = some (.inr ([a, b], ((a.length + b.length : Nat) : Int))) := by
   simp [zbv, T.run]
  rw [zah s1, zah s2, zag s3]
 have hg : F68 ((), ((a.length + b.length : Nat) : Int)) = some ((), []) := by
  unfold F68
  rw [if_pos ⟨by simp only []; omega, by simp only []; omega, by simp only []; omega⟩]
 have h11 : z6p (((), ([a, b], ((2 : Int), (0 : Int)))), ([] : List Int)) = some ((), a ++ b) := by
  simp only [z6p]
  have w1 : w64 (1 : Int) = 1 := zae (by omega) (by omega)
  have w3 : w64 (2 : Int) = 2 := zae (by omega) (by omega)
  have c0 : 2 * (a.length * 9) ≤ 140737488355328 := by omega
  have c1 : 2 * ((a.length + b.length) * 9) ≤ 140737488355328 := by omega
  have hw : win ([] : List Int) 0 0 = [] := rfl
  have s1 : (zbj (((), ([a, b], ((2 : Int), (0 : Int)))), ([] : List Int))).run = some (.inl (((), ([a, b], ((2 : Int), (1 : Int)))), a)) := by
   simp [zbj, T.run, w1, c0, hw]
  have s2 : (zbj (((), ([a, b], ((2 : Int), (1 : Int)))), a)).run = some (.inl (((), ([a, b], ((2 : Int), (2 : Int)))), a ++ b)) := by
   simp [zbj, T.run, w3, c1, zap]
  have s3 : (zbj (((), ([a, b], ((2 : Int), (2 : Int)))), a ++ b)).run = some (.inr ((), a ++ b)) := by
   simp [zbj, T.run]
  rw [zah s1, zah s2, zag s3]
 simp only [F49, za84, T.run, qk, qq]
 have e2 : ((0 + 1 + 1 : Nat) : Int) = 2 := rfl
 simp only [e2, h3, qa, hg, qq, true_and, decide_true, if_true, qk, h11]
def zaaj : FSh := ⟨[(.ag [(.sl (.int .i64) false false)]), (.one (.si .i64))], []⟩
def zaak : List FO := [⟨[(.ag [(.nl true true)]), (.one .sb)], []⟩, ⟨[(.ag [(.rw 0 0)]), (.one .sb)], [qr1]⟩]
def zbb3 : (List Int × Int) → T ((Unit × Bool) ⊕ ((Unit × Bool) × List Int)) := fun (p_0, k) =>(.sub (F56 (p_0, k)) fun z0 =>(.test (! z0) (.ret (Sum.inl ((), false))) (.test (decide (0 ≤ k)) (.test (decide (((Int.toNat k) ≤ p_0.length) ∧ (p_0.length ≤ p_0.length))) (.test (decide (0 ≤ k)) (.test (decide ((0 ≤ (Int.toNat k)) ∧ ((Int.toNat k) ≤ p_0.length))) (.test (decide (2 ≤ (List.length [(win p_0 (Int.toNat k) (p_0.length - (Int.toNat k))), (win p_0 0 ((Int.toNat k) - 0))]))) (.sub (F49 (win [(win p_0 (Int.toNat k) (p_0.length - (Int.toNat k))), (win p_0 0 ((Int.toNat k) - 0))] 0 2)) fun z1 =>(qz z1.2 (.ret (Sum.inr (((), true), z1.2))))) .fail) .fail) .fail) .fail) .fail)))
def zbb4 (v) := (zbb3 v).run
def zbiu : TEnv := ((E0.add1 za1a z9h z9g F56).add1 zbdo zakp zako F49)
theorem zbb2 : (zbiu).OK := ((E0ok.add1 za3m).add1 zbgi)
def zaxw : Nat → Option zal := fun id => none
theorem zaxx : FOK Tryz.prog za1p zaaj zaak zbb4 :=
 zao (E := zbiu) (zbb2) (told := zaxw) (fl := []) (c := zac za50) (s := zaaj) (l := zaak) (tree := zbb3) za0r (by kernel_rfl) (by kernel_rfl) (by kernel_rfl) (zab (ls := []) (by kernel_rfl) trivial) (fun v => by kernel_rfl)
def zan2 : List FO := [⟨[(.ag [(.rw 0 0)]), (.one .sb)], [qr1]⟩]
def zan3 : ((Unit × Bool) ⊕ ((Unit × Bool) × List Int)) → ((Unit × Bool) × List Int) := fun o => match o with | (.inl a) => (a, []) | (.inr x) => x
def F99 (v : (List Int × Int)) : Option ((Unit × Bool) × List Int) := (zbb4 v).map zan3
theorem zbiw : FOK Tryz.prog za1p zaaj zan2 F99 :=
 FOK.own (l' := zan2) zaxx zan3 [(.int .i64)] (by decide) (fun o => match o with | (.inl a) => .inr (by kernel_rfl) | (.inr x) => .inl (by kernel_rfl))
theorem zbiv (l : List Int) (k : Int) (hl : l.length < 4611686018427387904) : F99 (l, k) = some (((), (zaux l k).1), (zaux l k).2) := by
 simp only [F99, zbb4, zbb3, T.run, za3l l k hl, qa, zaux]
 cases hp : isPz l with
 | false => simp [zan3]
 | true =>
  cases hk : inB 0 ((l.length : Int) - 1) k with
  | false => simp [zan3]
  | true =>
   obtain ⟨w1, w2, k0, k1, l9⟩ := zaft hp hk
   have hc := za85 (l.drop k.toNat) (l.take k.toNat) (by rw [kb, kp]; omega)
   have hw : ∀ a b : List Int, win [a, b] 0 2 = [a, b] := fun _ _ => rfl
   simp only [w1, w2, hw, k0, hc]
   simp [k1, zan3]
def zam9 : FSh := ⟨[(.ag [(.sl (.int .i64) false false)]), (.one (.si .i64)), (.one (.si .i64))], []⟩
def zam8 : List FO := [⟨[(.ag [(.rw 0 0)])], [qr1]⟩]
def zba2 : (List Int × Int × Int) → T (Unit × List Int) := fun (p_0, at', number) =>(.sub (F53 p_0) fun z0 =>(.test (decide ((0 ≤ at') ∧ (at' < (z0.2.length : Int)))) (.sub (z0.2[(0 + (Int.toNat at'))]?) fun z1 =>(.test (decide ((0 = 0) ∧ (z0.2.length = (List.length (List.set z0.2 (0 + (Int.toNat at')) number))))) (.ret ((), (List.set z0.2 (0 + (Int.toNat at')) number))) .fail)) .fail))
def F82 (v) := (zba2 v).run
def zbh1 : TEnv := (E0.add1 zae0 z9d z9c F53)
theorem zba1 : (zbh1).OK := (E0ok.add1 zakx)
def zaxg : Nat → Option zal := fun id => none
theorem zbh3 : FOK Tryz.prog zbea zam9 zam8 F82 :=
 zao (E := zbh1) (zba1) (told := zaxg) (fl := []) (c := zac za5q) (s := zam9) (l := zam8) (tree := zba2) za0a (by kernel_rfl) (by kernel_rfl) (by kernel_rfl) (zab (ls := []) (by kernel_rfl) trivial) (fun v => by kernel_rfl)
theorem zbh2 (l : List Int) (at' n : Int) (hl : l.length < 1000000000000) (h1 : 0 ≤ at') (h2 : at' < l.length) : F82 (l, at', n) = some ((), l.set at'.toNat n) := by
 have h3 : at'.toNat < l.length := by omega
 have hc : F53 l = some ((), l) := by
  unfold F53
  rw [if_pos]
  exact ⟨by unfold maxLen; omega, by omega⟩
 simp [F82, zba2, T.run, hc, h1, h2, h3]
def zxj : FSh := ⟨[(.ag [(.sl (.int .i64) false false)]), (.one (.si .i64)), (.one (.si .i64))], []⟩
def z0j : List FO := [⟨[(.ag [(.nl true true)]), (.one .sb)], []⟩, ⟨[(.ag [(.rw 0 0)]), (.one .sb)], [qr1]⟩]
def zahb : (List Int × Int × Int) → T ((Unit × Bool) ⊕ ((Unit × Bool) × List Int)) := fun (p_0, at', number) =>(.sub (F56 (p_0, at')) fun z0 =>(.test (! z0) (.ret (Sum.inl ((), false))) (.sub (F122 (number, ((1 : Int), (w64 ((p_0.length : Int) - 2))))) fun z1 =>(.test (! z1) (.ret (Sum.inl ((), false))) (.test (decide ((0 ≤ at') ∧ (at' < (p_0.length : Int)))) (.sub (p_0[(Int.toNat at')]?) fun z2 =>(.test (z2 != 0) (.ret (Sum.inl ((), false))) (.sub (F82 (p_0, (at', number))) fun z3 =>(qz z3.2 (.ret (Sum.inr (((), true), z3.2))))))) .fail)))))
def zahd (v) := (zahb v).run
def za2k : TEnv := (((E0.add1 za1a z9h z9g F56).add1 zpa zh7 zh6 F122).add1 zbea zam9 zam8 F82)
theorem zavj : (za2k).OK := (((E0ok.add1 za3m).add1 zmy).add1 zbh3)
def zahc : Nat → Option zal := fun id => none
theorem zahe : FOK Tryz.prog zab2 zxj z0j zahd :=
 zao (E := za2k) (zavj) (told := zahc) (fl := []) (c := zac zaqa) (s := zxj) (l := z0j) (tree := zahb) zaq3 (by kernel_rfl) (by kernel_rfl) (by kernel_rfl) (zab (ls := []) (by kernel_rfl) trivial) (fun v => by kernel_rfl)
def z5n : List FO := [⟨[(.ag [(.rw 0 0)]), (.one .sb)], [qr1]⟩]
def zql : ((Unit × Bool) ⊕ ((Unit × Bool) × List Int)) → ((Unit × Bool) × List Int) := fun o => match o with | (.inl a) => (a, []) | (.inr x) => x
def F117 (v : (List Int × Int × Int)) : Option ((Unit × Bool) × List Int) := (zahd v).map zql
theorem za60 : FOK Tryz.prog zab2 zxj z5n F117 :=
 FOK.own (l' := z5n) zahe zql [(.int .i64)] (by decide) (fun o => match o with | (.inl a) => .inr (by kernel_rfl) | (.inr x) => .inl (by kernel_rfl))
theorem zaep {l : List Int} {at' : Int} (hp : isPz l = true) (ha : inB 0 ((l.length : Int) - 1) at' = true) : 0 ≤ at' ∧ at' < l.length ∧ ∃ h : at'.toNat < l.length, l[at'.toNat]? = some l[at'.toNat] := by
 rw [zay] at ha
 exact ⟨by omega, by omega, by omega, qb _⟩
theorem za6z (l : List Int) (at' n : Int) (hl : l.length < 4611686018427387904) : F117 (l, at', n) = some (((), (zapt l at' n).1), (zapt l at' n).2) := by
 simp only [F117, zahd, zahb, T.run, za3l l at' hl, zkd, qa, zapt]
 rw [zae (z := (l.length : Int) - 2) (by omega) (by omega)]
 cases hp : isPz l with
 | false => simp [zql]
 | true =>
  cases ha : inB 0 ((l.length : Int) - 1) at' with
  | false => simp [zql]
  | true =>
   cases hn : inB 1 ((l.length : Int) - 2) n with
   | false => simp [zql]
   | true =>
    obtain ⟨h1, h2, h3, h4⟩ := zaep hp ha
    have h5 := zdk hp
    rw [h4]
    by_cases h0 : l[at'.toNat] = 0
    ·simp [h1, h2, h0, zbh2 l at' n (by omega) h1 h2, zql]
    ·simp [h1, h2, h0, zql]
def z9y : FSh := ⟨[(.one .ss)], []⟩
def zro : LSh := ⟨(fun ex => match ex with | .norm => (nz [2, 4, 13, 14, 15]) | .exit i => if i = 0 then (nz [2, 4]) else [] | .ret => (nz [2, 3])), [(2, qo3), (4, qo9), (13, qo7), (14, qo1), (15, qo1)], [(.rcd 0 [(.nl true true)]), qr1], [⟨.ret, [(2, qo3), (3, qo2)], [(.rcd 0 [(.nl true true)])]⟩, ⟨(.exit 0), [(2, qo3), (4, qo9)], [(.rcd 0 [(.nl true true)]), qr1]⟩], [], []⟩
def zd0 : ((Unit × Unit × List Int × Int × Int) × (Unit × List Int)) → T (((Unit × Unit × List Int × Int × Int) × (Unit × List Int)) ⊕ (((Unit × Bool) × Unit) ⊕ ((Unit × Unit) × (Unit × List Int)))) := fun (((), (), t13, t14, t15), ((), out)) =>(.test (decide (t15 < t14)) (.test (decide ((0 ≤ t15) ∧ (t15 < (t13.length : Int)))) (.sub (t13[(Int.toNat t15)]?) fun z0 =>(.test (z0 == 46) (.test true (.test (decide ((0 + out.length) ≤ out.length)) (.test (decide ((2 * ((out.length + 1) * 9)) ≤ 140737488355328)) (.test (decide ((0 = 0) ∧ ((out.length + 1) = (List.length ((win out 0 out.length) ++ (win (List.set (List.replicate 1 (0 : Int)) 0 (0 : Int)) 0 1)))))) (.ret (Sum.inl (((), ((), (t13, (t14, (w64 (t15 + 1)))))), ((), ((win out 0 out.length) ++ (win (List.set (List.replicate 1 (0 : Int)) 0 (0 : Int)) 0 1)))))) .fail) .fail) .fail) .fail) (.test (decide (z0 ≥ 49)) (.test (decide (z0 ≤ 57)) (.test (decide (1 ≤ (List.length (List.set (List.replicate 1 (0 : Int)) 0 (w64 (wu8 (z0 - 48))))))) (.test (decide ((0 + out.length) ≤ out.length)) (.test (decide ((2 * ((out.length + (List.length (win (List.set (List.replicate 1 (0 : Int)) 0 (w64 (wu8 (z0 - 48)))) 0 1))) * 9)) ≤ 140737488355328)) (.test (decide ((0 = 0) ∧ ((out.length + (List.length (win (List.set (List.replicate 1 (0 : Int)) 0 (w64 (wu8 (z0 - 48)))) 0 1))) = (List.length ((win out 0 out.length) ++ (win (List.set (List.replicate 1 (0 : Int)) 0 (w64 (wu8 (z0 - 48)))) 0 1)))))) (.ret (Sum.inl (((), ((), (t13, (t14, (w64 (t15 + 1)))))), ((), ((win out 0 out.length) ++ (win (List.set (List.replicate 1 (0 : Int)) 0 (w64 (wu8 (z0 - 48)))) 0 1)))))) .fail) .fail) .fail) .fail) (.ret (Sum.inr (Sum.inl (((), false), ()))))) (.ret (Sum.inr (Sum.inl (((), false), ()))))))) .fail) (qz out (.ret (Sum.inr (Sum.inr (((), ()), ((), out)))))))
def za32 (v) := zav (fun v => (zd0 v).run) v
def z90 : List FO := [⟨[(.ag [(.nl true true)]), (.one .sb)], []⟩, ⟨[(.ag [(.rw 0 0)]), (.one .sb)], [qr1]⟩]
def zba4 : List UInt8 → T ((Unit × Bool) ⊕ ((Unit × Bool) × List Int)) := fun s =>(.test (decide ((s.length : Int) > 9)) (.ret (Sum.inl ((), false))) (.test (decide (s.length ≤ 140737488355328)) (.test true (.sub (za32 (((), ((), ((zll s), (((List.length (zll s)) : Int), (0 : Int))))), ((), (List.replicate 0 (0 : Int))))) fun z0 =>(.test (Sum.isLeft z0) (.sub (Sum.getLeft? z0) fun z1 =>(.ret (Sum.inl ((), z1.1.2)))) (.sub (Sum.getRight? z0) fun z2 =>(.test (decide ((0 + z2.2.2.length) ≤ z2.2.2.length)) (.sub (F109 (win z2.2.2 0 z2.2.2.length)) fun z3 =>(.test (! z3) (.ret (Sum.inl ((), false))) (qz z2.2.2 (.ret (Sum.inr (((), true), z2.2.2)))))) .fail)))) .fail) .fail))
def zba5 (v) := (zba4 v).run
def zba3 : TEnv := (E0.add1 zl5 zhg zhf F109)
theorem zana : (zba3).OK := (E0ok.add1 zkc)
def z9z : Nat → Option zal := fun id => if id = 5 then some (LSh.told zro 0 (zd0)) else none
theorem zanb : zan Tryz.prog 0 (zad (zac zabk) [0]) (LSh.told zro 0 (zd0)) :=
 zak (E := zba3) (zana) (told := z9z) (l := zro) (step := zd0) (zab (ls := []) (by kernel_rfl) trivial) (by kernel_rfl) (fun v => by kernel_rfl)
theorem zaxi : FOK Tryz.prog za1h z9y z90 zba5 :=
 zao (E := zba3) (zana) (told := z9z) (fl := []) (c := zac zabk) (s := z9y) (l := z90) (tree := zba4) za0b (by kernel_rfl) (by kernel_rfl) (by kernel_rfl) (zab (ls := [zad (zac zabk) [0]]) (by kernel_rfl) ⟨.inr ⟨_, by kernel_rfl, zanb⟩, trivial⟩) (fun v => by kernel_rfl)
def zanc : List FO := [⟨[(.ag [(.rw 0 0)]), (.one .sb)], [qr1]⟩]
def zaxh : ((Unit × Bool) ⊕ ((Unit × Bool) × List Int)) → ((Unit × Bool) × List Int) := fun o => match o with | (.inl a) => (a, []) | (.inr x) => x
def F83 (v : List UInt8) : Option ((Unit × Bool) × List Int) := (zba5 v).map zaxh
theorem zbh4 : FOK Tryz.prog za1h z9y zanc F83 :=
 FOK.own (l' := zanc) zaxi zaxh [(.int .i64)] (by decide) (fun o => match o with | (.inl a) => .inr (by kernel_rfl) | (.inr x) => .inl (by kernel_rfl))
theorem za33 (s : List UInt8) : F83 s = some (((), (zh3 s).1), (zh3 s).2) := by
 rw [F83, zba5, zba4, T.run_test]
 unfold zh3
 by_cases hl : s.length > 9
 ·rw [if_pos (by simp; omega), if_pos hl]; rfl
 ·rw [if_neg (by simp; omega), if_neg hl]
  have h := zwc (step := fun v => (zd0 v).run) (xs := s) (fun k (acc : List Int) => acc.length = k) (fun k acc => (((), (), zll s, (s.length : Int), (k : Int)), ((), acc)))
   (fun acc b => match zh0 b with | some z => .inl (acc ++ [z]) | none => .inr (Sum.inl (((), false), ()))) (fun acc => Sum.inr (((), ()), ((), acc)))
   (by
    intro k acc b hk hb
    have hlt := zai hb
    subst hk
    refine ⟨?_, fun s' h => ?_⟩
    ·simp only [zd0, T.run, qe, zaef hb, zvo, qa, zc9, zap, zac7]
     rw [zae (z := (acc.length : Int) + 1) (by omega) (by omega)]
     have c1 : (acc.length : Int) < (s.length : Int) := by omega
     unfold zh0
     by_cases h1 : b.toNat = 46
     ·simp [h1, c1]; omega
     ·have h1' : ¬ ((b.toNat : Int) = 46) := by omega
      by_cases h2 : 49 ≤ b.toNat ∧ b.toNat ≤ 57
      ·have e1 : wu8 ((b.toNat : Int) - 48) = (b.toNat : Int) - 48 := by unfold wu8; rw [IntKind.wrap_u8]; omega
       have e2 : w64 ((b.toNat : Int) - 48) = (b.toNat : Int) - 48 := zae (by omega) (by omega)
       have h3 : (49 : Int) ≤ b.toNat := by omega
       have h4 : (b.toNat : Int) ≤ 57 := by omega
       simp [h1, h1', c1, e1, e2, h2, h3, h4, zc9]; omega
      ·by_cases h3 : (49 : Int) ≤ b.toNat
       ·have h4 : ¬ ((b.toNat : Int) ≤ 57) := by omega
        simp [h1, h1', c1, h2, h3, h4]
       ·simp [h1, h1', c1, h2, h3]
    ·cases hc : zh0 b with
     | some z => rw [hc] at h; cases h; simp
     | none => rw [hc] at h; cases h)
   (by intro acc hk; simp [zd0, T.run])
   0 [] (Nat.zero_le _) rfl
  rw [List.drop_zero] at h
  replace h := h.trans (congrArg some (z7f _ _ _ _))
  simp only [T.run, za32, zvo, List.replicate]
  rw [show ((0 : Nat) : Int) = 0 from rfl] at h
  simp only [h, qw]
  have c2 : s.length ≤ 140737488355328 := by omega
  cases hp : zf5 s with
  | none => simp [c2, zaxh]
  | some r =>
   have hrl := zjs hp
   have := zkb r (by omega)
   simp only [c2, qa, Sum.isLeft, Sum.getRight?, zap, this]
   cases isPz r <;> simp [zaxh]
def z5p : FSh := ⟨[(.ag [(.sl (.int .i64) false false)]), (.ag [(.sl (.int .i64) false false)])], []⟩
def z5o : List FO := [⟨[(.one .sb)], []⟩]
def zahf : (List Int × List Int) → T Bool := fun (a_0, b_0) =>(.sub (F141 (a_0, b_0)) fun z0 =>(.ret z0))
def F118 (v) := (zahf v).run
def za2l : TEnv := (E0.add1 z3l zqz zqy F141)
theorem zavk : (za2l).OK := (E0ok.add1 z6c)
def zahg : Nat → Option zal := fun id => none
theorem za61 : FOK Tryz.prog zasz z5p z5o F118 :=
 zao (E := za2l) (zavk) (told := zahg) (fl := []) (c := zac zaqb) (s := z5p) (l := z5o) (tree := zahf) zaq4 (by kernel_rfl) (by kernel_rfl) (by kernel_rfl) (zab (ls := []) (by kernel_rfl) trivial) (fun v => by kernel_rfl)
theorem z8g (a b : List Int) (hl : a.length < 4611686018427387904) : F118 (a, b) = some (decide (a = b)) := by
 rw [F118, zahf, T.run_sub, ziq a b hl, qa, T.run_ret]
def zajy : FSh := ⟨[(.one (.pf 0 0 0)), (.one (.si .i64))], [(.rcd 0 [(.sl (.int .u8) false true), (.si .i64), (.si .u64)])]⟩
def zq4 : LSh := ⟨(fun ex => match ex with | .norm => (nz [0, 1, 5]) | .exit i => if i = 0 then (nz [5]) else [] | .ret => (nz [4])), [(0, qo3), (1, qo1), (5, qo9)], [(.rcd 0 [(.sl (.int .u8) false true), (.si .i64), (.si .u64)]), qr1], [⟨(.exit 0), [(5, qo9)], [(.rcd 0 [(.sl (.int .u8) false true), (.si .i64), (.si .u64)]), qr1]⟩], [], []⟩
def zdq : ((Unit × Int × Unit) × ((List Int × Int × Int) × List Int)) → T (((Unit × Int × Unit) × ((List Int × Int × Int) × List Int)) ⊕ (Unit × ((List Int × Int × Int) × List Int))) := fun (((), n, ()), ((c_0, c_1, c_2), out)) =>(.test (decide ((out.length : Int) < n)) (.sub (F86 (((), (out.length : Int)), (c_0, (c_1, c_2)))) fun z0 =>(.test (decide (0 ≤ (w64 (1 + z0.1)))) (.test (decide ((0 ≤ (Int.toNat (w64 (1 + z0.1)))) ∧ ((Int.toNat (w64 (1 + z0.1))) ≤ out.length))) (.test (decide ((0 + ((Int.toNat (w64 (1 + z0.1))) - 0)) ≤ out.length)) (.sub (F133 (win out 0 ((Int.toNat (w64 (1 + z0.1))) - 0))) fun z1 =>(.test true (.test (decide ((0 + z1.2.length) ≤ z1.2.length)) (.test (decide ((2 * ((z1.2.length + 1) * 9)) ≤ 140737488355328)) (.test (decide (0 ≤ (w64 (1 + z0.1)))) (.test (decide (((Int.toNat (w64 (1 + z0.1))) ≤ out.length) ∧ (out.length ≤ out.length))) (.test (decide (((0 + (Int.toNat (w64 (1 + z0.1)))) + (out.length - (Int.toNat (w64 (1 + z0.1))))) ≤ out.length)) (.test (decide ((0 + (z1.2.length + 1)) ≤ (List.length ((win z1.2 0 z1.2.length) ++ (win (List.set (List.replicate 1 (0 : Int)) 0 (1 : Int)) 0 1))))) (.test (decide ((2 * (((z1.2.length + 1) + (List.length (win out (0 + (Int.toNat (w64 (1 + z0.1)))) (out.length - (Int.toNat (w64 (1 + z0.1))))))) * 9)) ≤ 140737488355328)) (.test (decide ((0 ≤ (w64 ((w64 (1 + z0.1)) - 1))) ∧ ((w64 ((w64 (1 + z0.1)) - 1)) < (((z1.2.length + 1) + (List.length (win out (0 + (Int.toNat (w64 (1 + z0.1)))) (out.length - (Int.toNat (w64 (1 + z0.1))))))) : Int)))) (.sub (((win ((win z1.2 0 z1.2.length) ++ (win (List.set (List.replicate 1 (0 : Int)) 0 (1 : Int)) 0 1)) 0 (z1.2.length + 1)) ++ (win out (0 + (Int.toNat (w64 (1 + z0.1)))) (out.length - (Int.toNat (w64 (1 + z0.1))))))[(0 + (Int.toNat (w64 ((w64 (1 + z0.1)) - 1))))]?) fun z2 =>(.test (decide ((0 ≤ (w64 ((w64 (1 + z0.1)) - 1))) ∧ ((w64 ((w64 (1 + z0.1)) - 1)) < (((z1.2.length + 1) + (List.length (win out (0 + (Int.toNat (w64 (1 + z0.1)))) (out.length - (Int.toNat (w64 (1 + z0.1))))))) : Int)))) (.sub (((win ((win z1.2 0 z1.2.length) ++ (win (List.set (List.replicate 1 (0 : Int)) 0 (1 : Int)) 0 1)) 0 (z1.2.length + 1)) ++ (win out (0 + (Int.toNat (w64 (1 + z0.1)))) (out.length - (Int.toNat (w64 (1 + z0.1))))))[(0 + (Int.toNat (w64 ((w64 (1 + z0.1)) - 1))))]?) fun z3 =>(.test (decide ((((z1.2.length + 1) + (List.length (win out (0 + (Int.toNat (w64 (1 + z0.1)))) (out.length - (Int.toNat (w64 (1 + z0.1))))))) : Int) ≠ 0)) (.test (decide ((0 ≤ (Int.tmod (w64 ((w64 (1 + z0.1)) + 1)) (((z1.2.length + 1) + (List.length (win out (0 + (Int.toNat (w64 (1 + z0.1)))) (out.length - (Int.toNat (w64 (1 + z0.1))))))) : Int))) ∧ ((Int.tmod (w64 ((w64 (1 + z0.1)) + 1)) (((z1.2.length + 1) + (List.length (win out (0 + (Int.toNat (w64 (1 + z0.1)))) (out.length - (Int.toNat (w64 (1 + z0.1))))))) : Int)) < (((z1.2.length + 1) + (List.length (win out (0 + (Int.toNat (w64 (1 + z0.1)))) (out.length - (Int.toNat (w64 (1 + z0.1))))))) : Int)))) (.sub ((List.set ((win ((win z1.2 0 z1.2.length) ++ (win (List.set (List.replicate 1 (0 : Int)) 0 (1 : Int)) 0 1)) 0 (z1.2.length + 1)) ++ (win out (0 + (Int.toNat (w64 (1 + z0.1)))) (out.length - (Int.toNat (w64 (1 + z0.1)))))) (0 + (Int.toNat (w64 ((w64 (1 + z0.1)) - 1)))) (w64 (z2 + 1)))[(0 + (Int.toNat (Int.tmod (w64 ((w64 (1 + z0.1)) + 1)) (((z1.2.length + 1) + (List.length (win out (0 + (Int.toNat (w64 (1 + z0.1)))) (out.length - (Int.toNat (w64 (1 + z0.1))))))) : Int))))]?) fun z4 =>(.test (decide ((0 ≤ (Int.tmod (w64 ((w64 (1 + z0.1)) + 1)) (((z1.2.length + 1) + (List.length (win out (0 + (Int.toNat (w64 (1 + z0.1)))) (out.length - (Int.toNat (w64 (1 + z0.1))))))) : Int))) ∧ ((Int.tmod (w64 ((w64 (1 + z0.1)) + 1)) (((z1.2.length + 1) + (List.length (win out (0 + (Int.toNat (w64 (1 + z0.1)))) (out.length - (Int.toNat (w64 (1 + z0.1))))))) : Int)) < (((z1.2.length + 1) + (List.length (win out (0 + (Int.toNat (w64 (1 + z0.1)))) (out.length - (Int.toNat (w64 (1 + z0.1))))))) : Int)))) (.sub ((List.set ((win ((win z1.2 0 z1.2.length) ++ (win (List.set (List.replicate 1 (0 : Int)) 0 (1 : Int)) 0 1)) 0 (z1.2.length + 1)) ++ (win out (0 + (Int.toNat (w64 (1 + z0.1)))) (out.length - (Int.toNat (w64 (1 + z0.1)))))) (0 + (Int.toNat (w64 ((w64 (1 + z0.1)) - 1)))) (w64 (z2 + 1)))[(0 + (Int.toNat (Int.tmod (w64 ((w64 (1 + z0.1)) + 1)) (((z1.2.length + 1) + (List.length (win out (0 + (Int.toNat (w64 (1 + z0.1)))) (out.length - (Int.toNat (w64 (1 + z0.1))))))) : Int))))]?) fun z5 =>(.test (decide ((0 = 0) ∧ (((z1.2.length + 1) + (List.length (win out (0 + (Int.toNat (w64 (1 + z0.1)))) (out.length - (Int.toNat (w64 (1 + z0.1))))))) = (List.length (List.set (List.set ((win ((win z1.2 0 z1.2.length) ++ (win (List.set (List.replicate 1 (0 : Int)) 0 (1 : Int)) 0 1)) 0 (z1.2.length + 1)) ++ (win out (0 + (Int.toNat (w64 (1 + z0.1)))) (out.length - (Int.toNat (w64 (1 + z0.1)))))) (0 + (Int.toNat (w64 ((w64 (1 + z0.1)) - 1)))) (w64 (z2 + 1))) (0 + (Int.toNat (Int.tmod (w64 ((w64 (1 + z0.1)) + 1)) (((z1.2.length + 1) + (List.length (win out (0 + (Int.toNat (w64 (1 + z0.1)))) (out.length - (Int.toNat (w64 (1 + z0.1))))))) : Int)))) (w64 (z4 + 1))))))) (.ret (Sum.inl (((), (n, ())), ((z0.2.1, (z0.2.2.1, z0.2.2.2)), (List.set (List.set ((win ((win z1.2 0 z1.2.length) ++ (win (List.set (List.replicate 1 (0 : Int)) 0 (1 : Int)) 0 1)) 0 (z1.2.length + 1)) ++ (win out (0 + (Int.toNat (w64 (1 + z0.1)))) (out.length - (Int.toNat (w64 (1 + z0.1)))))) (0 + (Int.toNat (w64 ((w64 (1 + z0.1)) - 1)))) (w64 (z2 + 1))) (0 + (Int.toNat (Int.tmod (w64 ((w64 (1 + z0.1)) + 1)) (((z1.2.length + 1) + (List.length (win out (0 + (Int.toNat (w64 (1 + z0.1)))) (out.length - (Int.toNat (w64 (1 + z0.1))))))) : Int)))) (w64 (z4 + 1))))))) .fail)) .fail)) .fail) .fail)) .fail)) .fail) .fail) .fail) .fail) .fail) .fail) .fail) .fail) .fail)) .fail) .fail) .fail)) (qz out (.ret (Sum.inr ((), ((c_0, (c_1, c_2)), out))))))
def z0x (v) := zav (fun v => (zdq v).run) v
def zajx : List FO := [⟨[(.one (.rw 1 0))], [(.rcd 0 [(.sl (.int .u8) false true), (.si .i64), (.si .u64)]), qr1]⟩]
def za8c : ((Unit × Int) × (List Int × Int × Int)) → T (Unit × ((List Int × Int × Int) × List Int)) := fun (((), n), (c_0, c_1, c_2)) =>(.test (decide ((0 = 0) ∧ (3 = (List.length (List.set (List.set (List.set (List.replicate 3 (0 : Int)) 0 (1 : Int)) 1 (1 : Int)) 2 (1 : Int)))))) (.sub (z0x (((), (n, ())), ((c_0, (c_1, c_2)), (List.set (List.set (List.set (List.replicate 3 (0 : Int)) 0 (1 : Int)) 1 (1 : Int)) 2 (1 : Int))))) fun z0 =>(qz z0.2.2 (.ret ((), ((z0.2.1.1, (z0.2.1.2.1, z0.2.1.2.2)), z0.2.2))))) .fail)
def F31 (v) := (za8c v).run
def za8b : TEnv := ((E0.add1 z3o zox zow F86).add1 zpc zic zib F133)
theorem zajv : (za8b).OK := ((E0ok.add1 zvi).add1 zna)
def z82 : Nat → Option zal := fun id => if id = 2 then some (LSh.told zq4 1 (zdq)) else none
theorem zajw : zan Tryz.prog 1 (zad (zac zaa8) [0]) (LSh.told zq4 1 (zdq)) :=
 zak (E := za8b) (zajv) (told := z82) (l := zq4) (step := zdq) (zab (ls := []) (by kernel_rfl) trivial) (by kernel_rfl) (fun v => by kernel_rfl)
theorem zbfv : FOK Tryz.prog zbde zajy zajx F31 :=
 zao (E := za8b) (zajv) (told := z82) (fl := []) (c := zac zaa8) (s := zajy) (l := zajx) (tree := za8c) zayv (by kernel_rfl) (by kernel_rfl) (by kernel_rfl) (zab (ls := [zad (zac zaa8) [0]]) (by kernel_rfl) ⟨.inr ⟨_, by kernel_rfl, zajw⟩, trivial⟩) (fun v => by kernel_rfl)
def zak8 : FSh := ⟨[(.one (.pf 0 0 0)), (.one (.si .i64))], [(.rcd 0 [(.sl (.int .u8) false true), (.si .i64), (.si .u64)])]⟩
def zak7 : List FO := [⟨[(.one (.sl (.int .i64) false true))], [(.rcd 0 [(.sl (.int .u8) false true), (.si .i64), (.si .u64)])]⟩]
def za9n : ((Unit × Int) × (List Int × Int × Int)) → T (List Int × (List Int × Int × Int)) := fun (((), most), (c_0, c_1, c_2)) =>(.sub (F86 (((), (w64 (most - 2))), (c_0, (c_1, c_2)))) fun z0 =>(.sub (F31 (((), (w64 (3 + z0.1))), (z0.2.1, (z0.2.2.1, z0.2.2.2)))) fun z1 =>(.sub (F86 (((), (14 : Int)), (z1.2.1.1, (z1.2.1.2.1, z1.2.1.2.2)))) fun z2 =>(.test (z2.1 == 0) (.sub (F86 (((), (z1.2.2.length : Int)), (z2.2.1, (z2.2.2.1, z2.2.2.2)))) fun z3 =>(.test true (.sub (F75 (((), (win (List.set (List.set (List.set (List.set (List.set (List.set (List.replicate 6 (0 : Int)) 0 (-1)) 1 (0 : Int)) 2 (1 : Int)) 3 (2 : Int)) 4 (13 : Int)) 5 (4611686018427387904 : Int)) 0 6)), (z3.2.1, (z3.2.2.1, z3.2.2.2)))) fun z4 =>(.test (decide ((0 ≤ z3.1) ∧ (z3.1 < (z1.2.2.length : Int)))) (.sub (z1.2.2[(0 + (Int.toNat z3.1))]?) fun z5 =>(.test (decide ((0 + z1.2.2.length) ≤ (List.length (List.set z1.2.2 (0 + (Int.toNat z3.1)) z4.1)))) (.ret ((win (List.set z1.2.2 (0 + (Int.toNat z3.1)) z4.1) 0 z1.2.2.length), (z4.2.1, (z4.2.2.1, z4.2.2.2)))) .fail)) .fail)) .fail)) (.test (z2.1 == 1) (.test true (.test (decide ((1 ≤ z1.2.2.length) ∧ (z1.2.2.length ≤ z1.2.2.length))) (.test (decide ((1 + (z1.2.2.length - 1)) ≤ z1.2.2.length)) (.ret ((win z1.2.2 1 (z1.2.2.length - 1)), (z2.2.1, (z2.2.2.1, z2.2.2.2)))) .fail) .fail) .fail) (.test (z2.1 == 2) (.test (decide (((0 : Int) ≤ (0 : Int)) ∧ (0 < (z1.2.2.length : Int)))) (.sub (z1.2.2[0]?) fun z6 =>(.test (decide (((0 : Int) ≤ (1 : Int)) ∧ (1 < (z1.2.2.length : Int)))) (.sub (z1.2.2[1]?) fun z7 =>(.test (decide (((0 : Int) ≤ (0 : Int)) ∧ (0 < (z1.2.2.length : Int)))) (.sub (z1.2.2[0]?) fun z8 =>(.test (decide (((0 : Int) ≤ (1 : Int)) ∧ (1 < (z1.2.2.length : Int)))) (.sub ((List.set z1.2.2 0 z7)[1]?) fun z9 =>(.test (decide ((0 + z1.2.2.length) ≤ (List.length (List.set (List.set z1.2.2 0 z7) 1 z6)))) (.ret ((win (List.set (List.set z1.2.2 0 z7) 1 z6) 0 z1.2.2.length), (z2.2.1, (z2.2.2.1, z2.2.2.2)))) .fail)) .fail)) .fail)) .fail)) .fail) (.test (decide ((0 + z1.2.2.length) ≤ z1.2.2.length)) (.ret ((win z1.2.2 0 z1.2.2.length), (z2.2.1, (z2.2.2.1, z2.2.2.2)))) .fail)))))))
def F57 (v) := (za9n v).run
def zbgu : TEnv := (((E0.add1 z3o zox zow F86).add1 zbde zajy zajx F31).add1 za1d z9t z9s F75)
theorem za9m : (zbgu).OK := (((E0ok.add1 zvi).add1 zbfv).add1 za3u)
def zawo : Nat → Option zal := fun id => none
theorem zbgv : FOK Tryz.prog zbdu zak8 zak7 F57 :=
 zao (E := zbgu) (za9m) (told := zawo) (fl := [some (.int .i64)]) (c := zac za5e) (s := zak8) (l := zak7) (tree := za9n) zazl (by kernel_rfl) (by kernel_rfl) (by kernel_rfl) (zab (ls := []) (by kernel_rfl) trivial) (fun v => by kernel_rfl)
theorem zau0 {α : Type} (xs : List α) (o n : Nat) (h : o + n ≤ xs.length) : (win xs o n).length = n := by unfold win; rw [kp, kb]; omega
theorem zac6 {α : Type} (xs : List α) (o n : Nat) : (win xs o n).length ≤ xs.length := by unfold win; rw [kp, kb]; omega
theorem zafo (n : Int) (hn : n ≤ 20) : ∀ (m : Nat) (K : Int) (c : List Int × Int × Int) (out : List Int), curOK K c → K + 2 * (m : Int) < 10000000000 → 3 ≤ out.length → out.length ≤ 20 → 20 ≤ out.length + m →
  ∃ c' out', z0x (((), (n, ())), (c, out)) = some ((), (c', out')) ∧ 3 ≤ out'.length ∧ out'.length ≤ 20 ∧ curOK (K + 2 * (m : Int)) c' := by
 intro m
 induction m with
 | zero =>
  intro K c out h hK h3 h20 hm
  obtain ⟨c0, c1, c2⟩ := c
  have c9 : ¬ ((out.length : Int) < n) := by omega
  refine ⟨_, out, ?_, h3, h20, h.mono (by omega)⟩
  simp only [z0x]
  exact zag (by simp [zdq, T.run, c9])
 | succ m ih =>
  intro K c out h hK h3 h20 hm
  obtain ⟨c0, c1, c2⟩ := c
  by_cases c9 : (out.length : Int) < n
  ·obtain ⟨v, ⟨d0, d1, d2⟩, e, h0, h1, h2, hc⟩ := zc5 (out.length : Int) h (by omega)
   have h1 := h1 (by omega)
   obtain ⟨v, rfl⟩ := Int.eq_ofNat_of_zero_le h0
   have w1 : w64 (1 + (v : Int)) = ((v + 1 : Nat) : Int) := by rw [zae (by omega) (by omega)]; omega
   have w2 : w64 (((v + 1 : Nat) : Int) - 1) = (v : Int) := by rw [zae (by omega) (by omega)]; omega
   have w3 : w64 (((v + 1 : Nat) : Int) + 1) = ((v + 2 : Nat) : Int) := by rw [zae (by omega) (by omega)]; omega
   have hv : v < out.length := by omega
   have l1 : (win out 0 (v + 1)).length = v + 1 := zau0 _ _ _ (by omega)
   have l2 : (win out (v + 1) (out.length - (v + 1))).length = out.length - (v + 1) := zau0 _ _ _ (by omega)
   have ow := zia (win out 0 (v + 1)) (by omega)
   obtain ⟨W1, hW1⟩ : ∃ W, W = win out 0 (v + 1) := ⟨_, rfl⟩
   obtain ⟨W2, hW2⟩ : ∃ W, W = win out (v + 1) (out.length - (v + 1)) := ⟨_, rfl⟩
   rw [← hW1] at l1 ow
   rw [← hW2] at l2
   have hw : win (W1 ++ [1]) 0 (v + 1 + 1) = W1 ++ [1] := by
    have := zap (W1 ++ [(1 : Int)])
    rwa [ql, l1] at this
   have hwa : win W1 0 (v + 1) = W1 := by have := zap W1; rwa [l1] at this
   obtain ⟨L, hL⟩ : ∃ L, L = (W1 ++ [1]) ++ W2 := ⟨_, rfl⟩
   have hLl : L.length = v + 1 + 1 + (out.length - (v + 1)) := by rw [hL]; simp [l1, l2]; omega
   have t1 : Int.tmod ((v + 2 : Nat) : Int) ((v + 1 + 1 + (out.length - (v + 1)) : Nat) : Int) = (((v + 2) % (v + 1 + 1 + (out.length - (v + 1))) : Nat) : Int) := by
    rw [Int.tmod_eq_emod_of_nonneg (by omega)]
    rfl
   have t2 : (v + 2) % (v + 1 + 1 + (out.length - (v + 1))) < v + 1 + 1 + (out.length - (v + 1)) := Nat.mod_lt _ (by omega)
   generalize hq : (v + 2) % (v + 1 + 1 + (out.length - (v + 1))) = q at t1 t2
   have g1 : L[v]? = some (L[v]'(by omega)) := qb _
   obtain ⟨x, hx⟩ : ∃ x, L[v]? = some x := ⟨_, g1⟩
   obtain ⟨y, hy⟩ : ∃ y, (L.set v (w64 (x + 1)))[q]? = some y := ⟨_, qb (by rw [qy]; omega)⟩
   obtain ⟨c', out', e2, r1, r2, r3⟩ := ih (K + 2) (d0, d1, d2) ((L.set v (w64 (x + 1))).set q (w64 (y + 1))) hc (by omega) (by simp only [qy]; omega) (by simp only [qy]; omega) (by simp only [qy]; omega)
   refine ⟨c', out', ?_, r1, r2, r3.mono (by omega)⟩
   simp only [z0x] at e2 ⊢
   rw [← e2]
   refine zah ?_
   have a1 : (0 : Int) ≤ ((v + 1 : Nat) : Int) := by omega
   have a2 : 0 ≤ v + 1 ∧ v + 1 ≤ out.length := by omega
   have a3 : 0 + (v + 1 - 0) ≤ out.length := by omega
   have a4 : 2 * ((v + 1 + 1) * 9) ≤ 140737488355328 := by omega
   have a5 : v + 1 ≤ out.length ∧ out.length ≤ out.length := by omega
   have a6 : 0 + (v + 1) + (out.length - (v + 1)) ≤ out.length := by omega
   have a7 : 2 * ((v + 1 + 1 + (out.length - (v + 1))) * 9) ≤ 140737488355328 := by omega
   have a8 : (0 : Int) ≤ (v : Int) ∧ (v : Int) < ((v + 1 + 1 + (out.length - (v + 1)) : Nat) : Int) := by omega
   have a9 : ((v + 1 + 1 + (out.length - (v + 1)) : Nat) : Int) ≠ 0 := by omega
   have a10 : (0 : Int) ≤ (q : Int) ∧ (q : Int) < ((v + 1 + 1 + (out.length - (v + 1)) : Nat) : Int) := by omega
   rw [zdq, T.run_test, if_pos (qd c9), T.run_sub, e, qa]
   simp only [w1, qe, Nat.sub_zero, Nat.zero_add, ← hW1, ← hW2]
   rw [T.run_test, if_pos (qd a1), T.run_test, if_pos (qd a2), T.run_test, if_pos (qd (by omega)), T.run_sub, ow, qa]
   simp only [l1, l2, hwa, zc9, hw, w2, w3, qe, ← hL, ql, List.length_singleton]
   have e0 : (((v + 1 : Nat) : Int) + 1 + ((out.length - (v + 1) : Nat) : Int)) = ((v + 1 + 1 + (out.length - (v + 1)) : Nat) : Int) := by push_cast; omega
   simp only [e0, t1, qe, qy, hLl]
   rw [T.run_test, if_pos (by first | rfl | exact qd (by omega))]
   rw [T.run_test, if_pos (by first | rfl | exact qd (by omega))]
   rw [T.run_test, if_pos (by first | rfl | exact qd (by omega))]
   rw [T.run_test, if_pos (by first | rfl | exact qd (by omega))]
   rw [T.run_test, if_pos (by first | rfl | exact qd (by omega))]
   rw [T.run_test, if_pos (by first | rfl | exact qd (by omega))]
   rw [T.run_test, if_pos (by first | rfl | exact qd (by omega))]
   rw [T.run_test, if_pos (by first | rfl | exact qd (by omega))]
   rw [T.run_test, if_pos (by first | rfl | exact qd (by omega))]
   rw [T.run_sub, hx, qa]
   rw [T.run_test, if_pos (by first | rfl | exact qd (by omega))]
   rw [T.run_sub, qa]
   rw [T.run_test, if_pos (by first | rfl | exact qd (by omega))]
   rw [T.run_test, if_pos (by first | rfl | exact qd (by omega))]
   rw [T.run_sub, hy, qa]
   rw [T.run_test, if_pos (by first | rfl | exact qd (by omega))]
   rw [T.run_sub, qa]
   rw [T.run_test, if_pos (by simp)]
   rfl
  ·refine ⟨_, out, ?_, h3, h20, h.mono (by omega)⟩
   simp only [z0x]
   exact zag (by simp [zdq, T.run, c9])
theorem za14 {K : Int} {c : List Int × Int × Int} (n : Int) (hn : n ≤ 20) (h : curOK K c) (hK : K < 1000000000) :
  ∃ c' out', F31 (((), n), c) = some ((), (c', out')) ∧ 3 ≤ out'.length ∧ out'.length ≤ 20 ∧ curOK (K + 40) c' := by
 obtain ⟨c0, c1, c2⟩ := c
 obtain ⟨⟨d0, d1, d2⟩, out', e, h1, h2, h3⟩ := zafo n hn 17 K (c0, c1, c2) [1, 1, 1] h (by omega) (by simp) (by simp) (by simp)
 refine ⟨(d0, d1, d2), out', ?_, h1, h2, h3.mono (by omega)⟩
 rw [F31, za8c, T.run_test, if_pos (by simp), T.run_sub, show (List.set (List.set (List.set (List.replicate 3 (0 : Int)) 0 (1 : Int)) 1 (1 : Int)) 2 (1 : Int)) = [1, 1, 1] from rfl, e, qa, T.run_test, if_pos (by simp), T.run_ret]
theorem zpf {K : Int} {c : List Int × Int × Int} (N : Int) (hN : 3 ≤ N ∧ N ≤ 12) (h : curOK K c) (hK : K < 100000000) :
  ∃ l c', F57 (((), N), c) = some (l, c') ∧ l.length ≤ 20 ∧ curOK (K + 60) c' := by
 obtain ⟨c0, c1, c2⟩ := c
 obtain ⟨v, ⟨d0, d1, d2⟩, e, h0, h1, _, hc⟩ := zc5 (N - 2) h (by omega)
 have h1 := h1 (by omega)
 have w0 : w64 (N - 2) = N - 2 := zae (by omega) (by omega)
 have w1 : w64 (3 + v) = 3 + v := zae (by omega) (by omega)
 obtain ⟨⟨a0, a1, a2⟩, out, e2, g1, g2, hc2⟩ := za14 (3 + v) (by omega) hc (by omega)
 obtain ⟨u, ⟨b0, b1, b2⟩, e3, _, _, _, hc3⟩ := zc5 14 hc2 (by omega)
 rw [F57, za9n, T.run_sub, w0, e, qa, T.run_sub, w1, e2, qa, T.run_sub, e3, qa, T.run_test]
 dsimp only
 by_cases u0 : (u == 0) = true
 ·obtain ⟨x, ⟨f0, f1, f2⟩, e4, i0, i1, _, hc4⟩ := zc5 (out.length : Int) hc3 (by omega)
  have i1 := i1 (by omega)
  obtain ⟨y, ⟨j0, j1, j2⟩, e5, _, hc5⟩ := zaan [-1, 0, 1, 2, 13, 4611686018427387904] hc4 (by omega) (by simp)
  have hlt : 0 + x.toNat < out.length := by omega
  have hw : (win (List.set (List.set (List.set (List.set (List.set (List.set (List.replicate 6 (0 : Int)) 0 (-1)) 1 (0 : Int)) 2 (1 : Int)) 3 (2 : Int)) 4 (13 : Int)) 5 (4611686018427387904 : Int)) 0 6) = [-1, 0, 1, 2, 13, 4611686018427387904] := rfl
  rw [if_pos u0, T.run_sub, e4, qa, T.run_test, if_pos rfl, T.run_sub, hw, e5, qa, T.run_test, if_pos (qd ⟨i0, i1⟩), T.run_sub, qb hlt, qa, T.run_test, if_pos (by simp), T.run_ret]
  refine ⟨_, _, rfl, ?_, hc5.mono (by omega)⟩
  dsimp only
  have := zac6 (out.set (0 + x.toNat) y) 0 out.length
  rw [qy] at this
  omega
 rw [if_neg u0, T.run_test]
 by_cases u1 : (u == 1) = true
 ·rw [if_pos u1, T.run_test, if_pos rfl, T.run_test, if_pos (qd (by omega)), T.run_test, if_pos (qd (by omega)), T.run_ret]
  have := zac6 out 1 (out.length - 1)
  exact ⟨_, _, rfl, by omega, hc3.mono (by omega)⟩
 rw [if_neg u1, T.run_test]
 by_cases u2 : (u == 2) = true
 ·have p0 : 0 < out.length := by omega
  have p1 : 1 < out.length := by omega
  have hs : 1 < (out.set 0 out[1]).length := by rw [qy]; exact p1
  rw [if_pos u2, T.run_test, if_pos (qd (by omega)), T.run_sub, qb p0, qa, T.run_test, if_pos (qd (by omega)), T.run_sub, qb p1, qa,
   T.run_test, if_pos (qd (by omega)), T.run_sub, qa, T.run_test, if_pos (qd (by omega)), T.run_sub, qb hs, qa, T.run_test, if_pos (by simp), T.run_ret]
  refine ⟨_, _, rfl, ?_, hc3.mono (by omega)⟩
  have := zac6 ((out.set 0 out[1]).set 1 out[0]) 0 out.length
  simp only [qy] at this
  omega
 rw [if_neg u2, T.run_test, if_pos (by simp), T.run_ret]
 refine ⟨_, _, rfl, ?_, hc3.mono (by omega)⟩
 have := zac6 out 0 out.length
 omega
def zala : FSh := ⟨[(.one (.sl (.int .u8) false true))], []⟩
def zak9 : List FO := [⟨[(.ag [(.rw 0 0)]), (.one (.sl (.int .i64) false true))], [qr1]⟩]
def za9p : List Int → T ((Unit × List Int) × List Int) := fun code =>(.sub (F69 ((), (code, ((0 : Int), (0 : Int))))) fun z0 =>(.test (decide ((0 + z0.2.2.length) ≤ z0.2.2.length)) (.sub (F63 (win z0.2.2 0 z0.2.2.length)) fun z1 =>(.test z1.2 (.sub (F101 (((), (3 : Int)), z0.2.1)) fun z2 =>(.test (! z2.1) (qz z0.2.2 (.ret (((), z1.1), z0.2.2))) (.sub (F57 (((), (7 : Int)), z2.2)) fun z3 =>(qz z0.2.2 (.ret (((), z3.1), z0.2.2)))))) (.sub (F57 (((), (7 : Int)), z0.2.1)) fun z4 =>(qz z0.2.2 (.ret (((), z4.1), z0.2.2)))))) .fail))
def F58 (v) := (za9p v).run
def zbgw : TEnv := ((((E0.add1 zath z04 z03 F69).add1 za1b z9k z9j F63).add1 zabx zw8 zw7 F101).add1 zbdu zak8 zak7 F57)
theorem za9o : (zbgw).OK := ((((E0ok.add1 zal4).add1 za3p).add1 zaf1).add1 zbgv)
def zawq : Nat → Option zal := fun id => none
theorem zbgx : FOK Tryz.prog zbdv zala zak9 F58 :=
 zao (E := zbgw) (za9o) (told := zawq) (fl := [none, some (.int .i64)]) (c := zac za5f) (s := zala) (l := zak9) (tree := za9p) zazm (by kernel_rfl) (by kernel_rfl) (by kernel_rfl) (zab (ls := []) (by kernel_rfl) trivial) (fun v => by kernel_rfl)
theorem z7g (p : List Int) : (fsR p).1.length ≤ 9 := by
 unfold fsR
 have hm : ∀ q ∈ (solR p).2, q.length = p.length ∧ p.length ≤ 9 := fun q h => zfl h
 generalize solR p = r at *
 obtain ⟨ok, l⟩ := r
 cases ok with
 | false => cases l <;> simp
 | true => cases l with
  | nil => simp
  | cons a t =>
   have := hm a (by simp)
   simp only
   omega
theorem zawp {code : List Int} (h : zkx code) : ∃ q p, F58 code = some (((), q), p) ∧ p.length ≤ 9 ∧ q.length ≤ 20 := by
 obtain ⟨p, c, e, hp, hc⟩ := ztz (cur0 h) (by omega)
 have hfl := z7g p
 rw [F58, za9p, T.run_sub, e, qa, T.run_test, if_pos (by simp), T.run_sub]
 dsimp only
 rw [zap, za3o p (by omega), qa, T.run_test]
 by_cases h1 : (fsR p).2 = true
 ·obtain ⟨b, d, e2, hc2⟩ := za55 3 hc (by omega)
  rw [if_pos h1, T.run_sub, e2, qa, T.run_test]
  dsimp only
  by_cases hb : (!b) = true
  ·rw [if_pos hb, T.run_test, if_pos (by simp), T.run_ret]
   exact ⟨_, _, rfl, hp, by omega⟩
  ·obtain ⟨l, c3, e3, hl, _⟩ := zpf 7 (by omega) hc2 (by omega)
   rw [if_neg hb, T.run_sub, e3, qa, T.run_test, if_pos (by simp), T.run_ret]
   exact ⟨_, _, rfl, hp, hl⟩
 ·obtain ⟨l, c3, e3, hl, _⟩ := zpf 7 (by omega) hc (by omega)
  rw [if_neg h1, T.run_sub, e3, qa, T.run_test, if_pos (by simp), T.run_ret]
  exact ⟨_, _, rfl, hp, hl⟩
def z41 : FSh := ⟨[(.ag [(.sl (.int .i64) false false)]), (.one (.sl (.int .i64) false false))], []⟩
def z40 : List FO := [⟨[(.one .sb), (.one .sb)], []⟩]
def zafz : (List Int × List Int) → T (Bool × Bool) := fun (p_0, quiddity) =>(.sub (F123 p_0) fun z0 =>(.test (! z0) (.ret (false, false)) (.sub (F87 quiddity) fun z1 =>(.test (! z1) (.ret (false, false)) (.sub (F125 (p_0, quiddity)) fun z2 =>(.ret (z2, true)))))))
def F100 (v) := (zafz v).run
def za18 : TEnv := (((E0.add1 zpb zh9 zh8 F123).add1 za1j z95 z94 F87).add1 zab3 zxm zxl F125)
theorem zau6 : (za18).OK := (((E0ok.add1 zm0).add1 za36).add1 zahz)
def zaf0 : Nat → Option zal := fun id => none
theorem za6h : FOK Tryz.prog zasq z41 z40 F100 :=
 zao (E := za18) (zau6) (told := zaf0) (fl := []) (c := zac zapz) (s := z41) (l := z40) (tree := zafz) zaqn (by kernel_rfl) (by kernel_rfl) (by kernel_rfl) (zab (ls := []) (by kernel_rfl) trivial) (fun v => by kernel_rfl)
theorem za6g (p q : List Int) (hl : p.length < 4611686018427387904) (hq : q.length < 4611686018427387904) : F100 (p, q) = some (if isPz p && (trOf q).isSome then (fits p q, true) else (false, false)) := by
 simp only [F100, zafz, T.run, zmz p hl, za35 q hq, qa, zahy p q hl]
 cases isPz p <;> cases (trOf q).isSome <;> simp
theorem zau1 {α : Type} (xs : List α) (o n : Nat) (h : o + n ≤ xs.length) : (win xs o n).length = n := by unfold win; rw [kp, kb]; omega
def zamp : FSh := ⟨[(.one (.pf 0 0 0)), (.one .ss), (.one .ss)], [(.rcd 0 [(.sl (.int .u8) false true), (.si .i64), (.si .u64)])]⟩
def zrk : LSh := ⟨(fun ex => match ex with | .norm => (nz [0, 1, 2, 7]) | .exit i => if i = 0 then (nz [1]) else [] | .ret => (nz [6])), [(0, qo3), (1, qo6), (2, qo6), (7, qo1)], [(.rcd 0 [(.sl (.int .u8) false true), (.si .i64), (.si .u64)])], [⟨(.exit 0), [(1, qo6)], [(.rcd 0 [(.sl (.int .u8) false true), (.si .i64), (.si .u64)])]⟩], [], []⟩
def zc0 : ((Unit × List UInt8 × List UInt8 × Int) × (List Int × Int × Int)) → T (((Unit × List UInt8 × List UInt8 × Int) × (List Int × Int × Int)) ⊕ (List UInt8 × (List Int × Int × Int))) := fun (((), t, with', n), (c_0, c_1, c_2)) =>(.test (decide (n > 0)) (.test (decide ((t.length : Int) > 0)) (.sub (F86 (((), (t.length : Int)), (c_0, (c_1, c_2)))) fun z0 =>(.sub (F86 (((), (with'.length : Int)), (z0.2.1, (z0.2.2.1, z0.2.2.2)))) fun z1 =>(.test (decide ((0 ≤ z1.1) ∧ (z1.1 < (with'.length : Int)))) (.sub (with'[(Int.toNat z1.1)]?) fun z2 =>(.test (decide (1 ≤ (List.length (List.set (List.replicate 1 (0 : Int)) 0 ((UInt8.toNat z2) : Int))))) (.sub (F86 (((), (3 : Int)), (z1.2.1, (z1.2.2.1, z1.2.2.2)))) fun z3 =>(.test (z3.1 == 0) (.test (decide (0 ≤ z0.1)) (.test (decide ((0 ≤ (Int.toNat z0.1)) ∧ ((Int.toNat z0.1) ≤ t.length))) (.test (decide (((List.length (win t 0 ((Int.toNat z0.1) - 0))) + (List.length (List.map (fun z => UInt8.ofNat z.toNat) (win (List.set (List.replicate 1 (0 : Int)) 0 ((UInt8.toNat z2) : Int)) 0 1)))) ≤ 140737488355328)) (.test (decide (0 ≤ z0.1)) (.test (decide (((Int.toNat z0.1) ≤ t.length) ∧ (t.length ≤ t.length))) (.test (decide (((List.length ((win t 0 ((Int.toNat z0.1) - 0)) ++ (List.map (fun z => UInt8.ofNat z.toNat) (win (List.set (List.replicate 1 (0 : Int)) 0 ((UInt8.toNat z2) : Int)) 0 1)))) + (List.length (win t (Int.toNat z0.1) (t.length - (Int.toNat z0.1))))) ≤ 140737488355328)) (.ret (Sum.inl (((), ((((win t 0 ((Int.toNat z0.1) - 0)) ++ (List.map (fun z => UInt8.ofNat z.toNat) (win (List.set (List.replicate 1 (0 : Int)) 0 ((UInt8.toNat z2) : Int)) 0 1))) ++ (win t (Int.toNat z0.1) (t.length - (Int.toNat z0.1)))), (with', (w64 (n - 1))))), (z3.2.1, (z3.2.2.1, z3.2.2.2))))) .fail) .fail) .fail) .fail) .fail) .fail) (.test (z3.1 == 1) (.test (decide (0 ≤ z0.1)) (.test (decide ((0 ≤ (Int.toNat z0.1)) ∧ ((Int.toNat z0.1) ≤ t.length))) (.test (decide (((List.length (win t 0 ((Int.toNat z0.1) - 0))) + (List.length (List.map (fun z => UInt8.ofNat z.toNat) (win (List.set (List.replicate 1 (0 : Int)) 0 ((UInt8.toNat z2) : Int)) 0 1)))) ≤ 140737488355328)) (.test (decide (0 ≤ (w64 (z0.1 + 1)))) (.test (decide (((Int.toNat (w64 (z0.1 + 1))) ≤ t.length) ∧ (t.length ≤ t.length))) (.test (decide (((List.length ((win t 0 ((Int.toNat z0.1) - 0)) ++ (List.map (fun z => UInt8.ofNat z.toNat) (win (List.set (List.replicate 1 (0 : Int)) 0 ((UInt8.toNat z2) : Int)) 0 1)))) + (List.length (win t (Int.toNat (w64 (z0.1 + 1))) (t.length - (Int.toNat (w64 (z0.1 + 1))))))) ≤ 140737488355328)) (.ret (Sum.inl (((), ((((win t 0 ((Int.toNat z0.1) - 0)) ++ (List.map (fun z => UInt8.ofNat z.toNat) (win (List.set (List.replicate 1 (0 : Int)) 0 ((UInt8.toNat z2) : Int)) 0 1))) ++ (win t (Int.toNat (w64 (z0.1 + 1))) (t.length - (Int.toNat (w64 (z0.1 + 1)))))), (with', (w64 (n - 1))))), (z3.2.1, (z3.2.2.1, z3.2.2.2))))) .fail) .fail) .fail) .fail) .fail) .fail) (.test (decide (0 ≤ z0.1)) (.test (decide ((0 ≤ (Int.toNat z0.1)) ∧ ((Int.toNat z0.1) ≤ t.length))) (.test (decide (0 ≤ (w64 (z0.1 + 1)))) (.test (decide (((Int.toNat (w64 (z0.1 + 1))) ≤ t.length) ∧ (t.length ≤ t.length))) (.test (decide (((List.length (win t 0 ((Int.toNat z0.1) - 0))) + (List.length (win t (Int.toNat (w64 (z0.1 + 1))) (t.length - (Int.toNat (w64 (z0.1 + 1))))))) ≤ 140737488355328)) (.ret (Sum.inl (((), (((win t 0 ((Int.toNat z0.1) - 0)) ++ (win t (Int.toNat (w64 (z0.1 + 1))) (t.length - (Int.toNat (w64 (z0.1 + 1)))))), (with', (w64 (n - 1))))), (z3.2.1, (z3.2.2.1, z3.2.2.2))))) .fail) .fail) .fail) .fail) .fail)))) .fail)) .fail))) (.ret (Sum.inr (t, (c_0, (c_1, c_2)))))) (.ret (Sum.inr (t, (c_0, (c_1, c_2))))))
def z08 (v) := zav (fun v => (zc0 v).run) v
def zamo : List FO := [⟨[(.one .ss)], [(.rcd 0 [(.sl (.int .u8) false true), (.si .i64), (.si .u64)])]⟩]
def zbal : ((Unit × List UInt8 × List UInt8) × (List Int × Int × Int)) → T (List UInt8 × (List Int × Int × Int)) := fun (((), t, with'), (c_0, c_1, c_2)) =>(.sub (F86 (((), (2 : Int)), (c_0, (c_1, c_2)))) fun z0 =>(.sub (z08 (((), (t, (with', (w64 (1 + z0.1))))), (z0.2.1, (z0.2.2.1, z0.2.2.2)))) fun z1 =>(.ret (z1.1, (z1.2.1, (z1.2.2.1, z1.2.2.2))))))
def F74 (v) := (zbal v).run
def zbak : TEnv := (E0.add1 z3o zox zow F86)
theorem zamm : (zbak).OK := (E0ok.add1 zvi)
def z9r : Nat → Option zal := fun id => if id = 2 then some (LSh.told zrk 1 (zc0)) else none
theorem zamn : zan Tryz.prog 1 (zad (zac zabi) [0]) (LSh.told zrk 1 (zc0)) :=
 zak (E := zbak) (zamm) (told := z9r) (l := zrk) (step := zc0) (zab (ls := []) (by kernel_rfl) trivial) (by kernel_rfl) (fun v => by kernel_rfl)
theorem zbhq : FOK Tryz.prog zbd6 zamp zamo F74 :=
 zao (E := zbak) (zamm) (told := z9r) (fl := []) (c := zac zabi) (s := zamp) (l := zamo) (tree := zbal) zaz2 (by kernel_rfl) (by kernel_rfl) (by kernel_rfl) (zab (ls := [zad (zac zabi) [0]]) (by kernel_rfl) ⟨.inr ⟨_, by kernel_rfl, zamn⟩, trivial⟩) (fun v => by kernel_rfl)
theorem z4s (w : List UInt8) (hw : 1 ≤ w.length) (hw2 : w.length ≤ 100) : ∀ (m : Nat) (K : Int) (c : List Int × Int × Int) (t : List UInt8), curOK K c → K + 6 * (m : Int) < 1000000000000 → t.length + m ≤ 1000 →
  ∃ t' c', z08 (((), (t, (w, (m : Int)))), c) = some (t', c') ∧ t'.length ≤ t.length + m ∧ curOK (K + 6 * (m : Int)) c' := by
 intro m
 induction m with
 | zero =>
  intro K c t hc hK ht
  obtain ⟨c0, c1, c2⟩ := c
  refine ⟨t, (c0, c1, c2), ?_, by omega, hc.mono (by omega)⟩
  simp only [z08]
  refine zag ?_
  rw [zc0, T.run_test, if_neg (by rw [kf]; omega), T.run_ret]
 | succ m ih =>
  intro K c t hc hK ht
  obtain ⟨c0, c1, c2⟩ := c
  by_cases h0 : t.length = 0
  ·refine ⟨t, (c0, c1, c2), ?_, by omega, hc.mono (by omega)⟩
   simp only [z08]
   refine zag ?_
   rw [zc0, T.run_test, if_pos (qd (by omega)), T.run_test, if_neg (by rw [kf]; omega), T.run_ret]
  ·obtain ⟨i, ⟨d0, d1, d2⟩, e1, i0, i1, _, hc1⟩ := zc5 (t.length : Int) hc (by omega)
   have i1 := i1 (by omega)
   obtain ⟨j, ⟨f0, f1, f2⟩, e2, j0, j1, _, hc2⟩ := zc5 (w.length : Int) hc1 (by omega)
   have j1 := j1 (by omega)
   obtain ⟨u, ⟨g0, g1, g2⟩, e3, _, _, _, hc3⟩ := zc5 3 hc2 (by omega)
   have hj : j.toNat < w.length := by omega
   have wi : w64 (i + 1) = i + 1 := zae (by omega) (by omega)
   have wm : w64 (((m + 1 : Nat) : Int) - 1) = (m : Int) := by rw [zae (by omega) (by omega)]; omega
   have hone : (List.map (fun z : Int => UInt8.ofNat z.toNat) (win (List.set (List.replicate 1 (0 : Int)) 0 ((UInt8.toNat w[j.toNat]) : Int)) 0 1)).length = 1 := rfl
   have l1 : (win t 0 (i.toNat - 0)).length = i.toNat := by rw [Nat.sub_zero]; exact zau1 t 0 _ (by omega)
   have l2 : (win t i.toNat (t.length - i.toNat)).length = t.length - i.toNat := zau1 t _ _ (by omega)
   have l3 : (win t (i + 1).toNat (t.length - (i + 1).toNat)).length = t.length - (i + 1).toNat := zau1 t _ _ (by omega)
   have st : ∃ t2, (zc0 (((), (t, (w, ((m + 1 : Nat) : Int)))), (c0, c1, c2))).run = some (.inl (((), (t2, (w, (m : Int)))), (g0, g1, g2))) ∧ t2.length ≤ t.length + 1 := by
    rw [zc0, T.run_test, if_pos (qd (by omega)), T.run_test, if_pos (qd (by omega)), T.run_sub, e1, qa, T.run_sub, e2, qa, T.run_test, if_pos (qd (by omega)), T.run_sub, qb hj, qa, T.run_test, if_pos (by simp), T.run_sub, e3, qa, T.run_test]
    by_cases u0 : (u == 0) = true
    ·rw [if_pos u0, T.run_test, if_pos (qd i0), T.run_test, if_pos (qd (by omega)), T.run_test, if_pos (qd (by rw [l1, hone]; omega)), T.run_test, if_pos (qd i0), T.run_test, if_pos (qd (by omega)), T.run_test, if_pos (qd (by rw [ql, l1, hone, l2]; omega)), T.run_ret, wm]
     exact ⟨_, rfl, by rw [ql, ql, l1, hone, l2]; omega⟩
    rw [if_neg u0, T.run_test]
    by_cases u1 : (u == 1) = true
    ·rw [if_pos u1, T.run_test, if_pos (qd i0), T.run_test, if_pos (qd (by omega)), T.run_test, if_pos (qd (by rw [l1, hone]; omega)), wi, T.run_test, if_pos (qd (by omega)), T.run_test, if_pos (qd (by omega)), T.run_test, if_pos (qd (by rw [ql, l1, hone, l3]; omega)), T.run_ret, wm]
     exact ⟨_, rfl, by rw [ql, ql, l1, hone, l3]; omega⟩
    rw [if_neg u1, T.run_test, if_pos (qd i0), T.run_test, if_pos (qd (by omega)), wi, T.run_test, if_pos (qd (by omega)), T.run_test, if_pos (qd (by omega)), T.run_test, if_pos (qd (by rw [l1, l3]; omega)), T.run_ret, wm]
    exact ⟨_, rfl, by rw [ql, l1, l3]; omega⟩
   obtain ⟨t2, e, h2⟩ := st
   obtain ⟨t3, c3, e4, h3, hc4⟩ := ih (K + 6) (g0, g1, g2) t2 (hc3.mono (by omega)) (by omega) (by omega)
   refine ⟨t3, c3, ?_, by omega, hc4.mono (by omega)⟩
   simp only [z08] at e4 ⊢
   rw [← e4]
   exact zah e
theorem zaum {K : Int} {c : List Int × Int × Int} (t w : List UInt8) (h : curOK K c) (hK : K < 100000000000) (ht : t.length ≤ 500) (hw : 1 ≤ w.length) (hw2 : w.length ≤ 100) :
  ∃ t' c', F74 (((), (t, w)), c) = some (t', c') ∧ t'.length ≤ t.length + 2 ∧ curOK (K + 14) c' := by
 obtain ⟨c0, c1, c2⟩ := c
 obtain ⟨v, ⟨d0, d1, d2⟩, e, h0, h1, _, hc⟩ := zc5 2 h (by omega)
 have h1 := h1 (by omega)
 obtain ⟨n, hn⟩ : ∃ n : Nat, 1 + v = (n : Int) := ⟨(1 + v).toNat, by omega⟩
 have wv : w64 (1 + v) = (n : Int) := by rw [zae (by omega) (by omega)]; exact hn
 obtain ⟨t2, ⟨f0, f1, f2⟩, e2, h2, hc2⟩ := z4s w hw hw2 n _ _ t hc (by omega) (by omega)
 rw [F74, zbal, T.run_sub, e, qa, T.run_sub, wv, e2, qa, T.run_ret]
 exact ⟨_, _, rfl, by simp only; omega, hc2.mono (by omega)⟩
def zakr : FSh := ⟨[(.one (.sl (.int .u8) false true))], []⟩
def zakq : List FO := [⟨[(.one .ss)], []⟩]
def za9a : List Int → T (List UInt8) := fun code =>(.sub (F69 ((), (code, ((0 : Int), (0 : Int))))) fun z0 =>(.test (decide ((0 + z0.2.2.length) ≤ z0.2.2.length)) (.sub (F95 (win z0.2.2 0 z0.2.2.length)) fun z1 =>(.test (! z1.2) (.ret [(49 : UInt8), (46 : UInt8), (57 : UInt8)]) (.sub (F101 (((), (3 : Int)), z0.2.1)) fun z2 =>(.test z2.1 (.sub (F74 (((), (z1.1, [(48 : UInt8), (49 : UInt8), (50 : UInt8), (51 : UInt8), (46 : UInt8), (120 : UInt8)])), z2.2)) fun z3 =>(.ret z3.1)) (.ret z1.1))))) .fail))
def F50 (v) := (za9a v).run
def zbgk : TEnv := ((((E0.add1 zath z04 z03 F69).add1 za1n zaaf zaae F95).add1 zabx zw8 zw7 F101).add1 zbd6 zamp zamo F74)
theorem za89 : (zbgk).OK := ((((E0ok.add1 zal4).add1 za4f).add1 zaf1).add1 zbhq)
def zawj : Nat → Option zal := fun id => none
theorem zbgl : FOK Tryz.prog zbdp zakr zakq F50 :=
 zao (E := zbgk) (za89) (told := zawj) (fl := []) (c := zac za5a) (s := zakr) (l := zakq) (tree := za9a) zaze (by kernel_rfl) (by kernel_rfl) (by kernel_rfl) (zab (ls := []) (by kernel_rfl) trivial) (fun v => by kernel_rfl)
theorem zawi {code : List Int} (h : zkx code) : ∃ s, F50 code = some s := by
 obtain ⟨p, c, e, hp, hc⟩ := ztz (cur0 h) (by omega)
 rw [F50, za9a, T.run_sub, e, qa, T.run_test, if_pos (by simp), T.run_sub]
 dsimp only
 rw [zap, za4e p (by omega), qa, T.run_test]
 cases isPz p with
 | false => rw [if_pos (by rfl), T.run_ret]; exact ⟨_, rfl⟩
 | true =>
  obtain ⟨b, d, e2, hc2⟩ := za55 3 hc (by omega)
  rw [if_neg (by simp), T.run_sub, e2, qa, T.run_test]
  dsimp only
  cases b with
  | false => rw [if_neg (by simp), T.run_ret]; exact ⟨_, rfl⟩
  | true =>
   have hl : (pzT p).length ≤ 500 := by unfold pzT; rw [km]; omega
   obtain ⟨t, c4, e4, _, _⟩ := zaum (pzT p) [48, 49, 50, 51, 46, 120] hc2 (by omega) hl (by simp) (by simp)
   rw [if_pos rfl, T.run_sub]
   simp only [if_true]
   rw [e4, qa, T.run_ret]
   exact ⟨_, rfl⟩
def z91 : FSh := ⟨[(.one .ss)], []⟩
def zrp : LSh := ⟨(fun ex => match ex with | .norm => (nz [0, 2, 4, 5]) | .exit i => if i = 0 then (nz [2, 4]) else [] | .ret => (nz [2, 3])), [(0, qo6), (2, qo3), (4, (.one (.pf 1 0 0))), (5, qo1)], [(.rcd 0 [(.nl true true)]), (.rcd 0 [(.rw 2 0)]), qr1], [⟨.ret, [(2, qo3), (3, qo2)], [(.rcd 0 [(.nl true true)])]⟩, ⟨(.exit 0), [(2, qo3), (4, (.one (.pf 1 0 0)))], [(.rcd 0 [(.nl true true)]), (.rcd 0 [(.rw 2 0)]), qr1]⟩], [(1, 0, (.int .i64))], []⟩
def zd1 : ((List UInt8 × Unit × Unit × Int) × (Unit × Unit × List Int)) → T (((List UInt8 × Unit × Unit × Int) × (Unit × Unit × List Int)) ⊕ (((Unit × Bool) × Unit) ⊕ ((Unit × Unit) × (Unit × Unit × List Int)))) := fun ((s, (), (), i), ((), (), p_r)) =>(.test (decide (i < (s.length : Int))) (.test (decide ((0 ≤ i) ∧ (i < (s.length : Int)))) (.sub (s[(Int.toNat i)]?) fun z0 =>(.test (((UInt8.toNat z0) : Int) == 46) (.test true (.test (decide ((0 + p_r.length) ≤ p_r.length)) (.test (decide ((2 * ((p_r.length + 1) * 9)) ≤ 140737488355328)) (.test (decide ((0 = 0) ∧ ((p_r.length + 1) = (List.length ((win p_r 0 p_r.length) ++ (win (List.set (List.replicate 1 (0 : Int)) 0 (0 : Int)) 0 1)))))) (.ret (Sum.inl ((s, ((), ((), (w64 (i + 1))))), ((), ((), ((win p_r 0 p_r.length) ++ (win (List.set (List.replicate 1 (0 : Int)) 0 (0 : Int)) 0 1))))))) .fail) .fail) .fail) .fail) (.test (decide ((0 ≤ i) ∧ (i < (s.length : Int)))) (.sub (s[(Int.toNat i)]?) fun z1 =>(.test (decide (((UInt8.toNat z1) : Int) ≥ 49)) (.test (decide ((0 ≤ i) ∧ (i < (s.length : Int)))) (.sub (s[(Int.toNat i)]?) fun z2 =>(.test (decide (((UInt8.toNat z2) : Int) ≤ 57)) (.test (decide ((0 ≤ i) ∧ (i < (s.length : Int)))) (.sub (s[(Int.toNat i)]?) fun z3 =>(.test (decide (1 ≤ (List.length (List.set (List.replicate 1 (0 : Int)) 0 (w64 (wu8 (((UInt8.toNat z3) : Int) - 48))))))) (.test (decide ((0 + p_r.length) ≤ p_r.length)) (.test (decide ((2 * ((p_r.length + (List.length (win (List.set (List.replicate 1 (0 : Int)) 0 (w64 (wu8 (((UInt8.toNat z3) : Int) - 48)))) 0 1))) * 9)) ≤ 140737488355328)) (.test (decide ((0 = 0) ∧ ((p_r.length + (List.length (win (List.set (List.replicate 1 (0 : Int)) 0 (w64 (wu8 (((UInt8.toNat z3) : Int) - 48)))) 0 1))) = (List.length ((win p_r 0 p_r.length) ++ (win (List.set (List.replicate 1 (0 : Int)) 0 (w64 (wu8 (((UInt8.toNat z3) : Int) - 48)))) 0 1)))))) (.ret (Sum.inl ((s, ((), ((), (w64 (i + 1))))), ((), ((), ((win p_r 0 p_r.length) ++ (win (List.set (List.replicate 1 (0 : Int)) 0 (w64 (wu8 (((UInt8.toNat z3) : Int) - 48)))) 0 1))))))) .fail) .fail) .fail) .fail)) .fail) (.ret (Sum.inr (Sum.inl (((), false), ())))))) .fail) (.ret (Sum.inr (Sum.inl (((), false), ())))))) .fail))) .fail) (qz p_r (.ret (Sum.inr (Sum.inr (((), ()), ((), ((), p_r))))))))
def za34 (v) := zav (fun v => (zd1 v).run) v
def z93 : List FO := [⟨[(.ag [(.nl true true)]), (.one .sb)], []⟩, ⟨[(.ag [(.rw 0 0)]), (.one .sb)], [qr1]⟩]
def zba7 : List UInt8 → T ((Unit × Bool) ⊕ ((Unit × Bool) × List Int)) := fun s =>(.test (decide ((s.length : Int) > 9)) (.ret (Sum.inl ((), false))) (.test true (.sub (za34 ((s, ((), ((), (0 : Int)))), ((), ((), ([] : List Int))))) fun z0 =>(.test (Sum.isLeft z0) (.sub (Sum.getLeft? z0) fun z1 =>(.ret (Sum.inl ((), z1.1.2)))) (.sub (Sum.getRight? z0) fun z2 =>(.test (decide ((0 + z2.2.2.2.length) ≤ z2.2.2.2.length)) (.sub (F123 (win z2.2.2.2 0 z2.2.2.2.length)) fun z3 =>(.test (! z3) (.ret (Sum.inl ((), false))) (qz z2.2.2.2 (.ret (Sum.inr (((), true), z2.2.2.2)))))) .fail)))) .fail))
def zba8 (v) := (zba7 v).run
def zba6 : TEnv := (E0.add1 zpb zh9 zh8 F123)
theorem zand : (zba6).OK := (E0ok.add1 zm0)
def z92 : Nat → Option zal := fun id => if id = 5 then some (LSh.told zrp 0 (zd1)) else none
theorem zane : zan Tryz.prog 0 (zad (zac zabl) [0]) (LSh.told zrp 0 (zd1)) :=
 zak (E := zba6) (zand) (told := z92) (l := zrp) (step := zd1) (zab (ls := []) (by kernel_rfl) trivial) (by kernel_rfl) (fun v => by kernel_rfl)
theorem zaxk : FOK Tryz.prog za1i z91 z93 zba8 :=
 zao (E := zba6) (zand) (told := z92) (fl := []) (c := zac zabl) (s := z91) (l := z93) (tree := zba7) za0c (by kernel_rfl) (by kernel_rfl) (by kernel_rfl) (zab (ls := [zad (zac zabl) [0]]) (by kernel_rfl) ⟨.inr ⟨_, by kernel_rfl, zane⟩, trivial⟩) (fun v => by kernel_rfl)
def zanf : List FO := [⟨[(.ag [(.rw 0 0)]), (.one .sb)], [qr1]⟩]
def zaxj : ((Unit × Bool) ⊕ ((Unit × Bool) × List Int)) → ((Unit × Bool) × List Int) := fun o => match o with | (.inl a) => (a, []) | (.inr x) => x
def F84 (v : List UInt8) : Option ((Unit × Bool) × List Int) := (zba8 v).map zaxj
theorem zbh6 : FOK Tryz.prog za1i z91 zanf F84 :=
 FOK.own (l' := zanf) zaxk zaxj [(.int .i64)] (by decide) (fun o => match o with | (.inl a) => .inr (by kernel_rfl) | (.inr x) => .inl (by kernel_rfl))
theorem zbh5 (s : List UInt8) : F84 s = some (((), (zh3 s).1), (zh3 s).2) := by
 rw [F84, zba8, zba7, T.run_test]
 unfold zh3
 by_cases hl : s.length > 9
 ·rw [if_pos (by simp; omega), if_pos hl]; rfl
 ·rw [if_neg (by simp; omega), if_neg hl]
  have h := zwc (step := fun v => (zd1 v).run) (xs := s) (fun k (acc : List Int) => acc.length = k) (fun k acc => ((s, (), (), (k : Int)), ((), (), acc)))
   (fun acc b => match zh0 b with | some z => .inl (acc ++ [z]) | none => .inr (Sum.inl (((), false), ()))) (fun acc => Sum.inr (((), ()), ((), (), acc)))
   (by
    intro k acc b hk hb
    have hlt := zai hb
    subst hk
    refine ⟨?_, fun s' h => ?_⟩
    ·simp only [zd1, T.run, qe, hb, qa, zc9, zap, zac7]
     rw [zae (z := (acc.length : Int) + 1) (by omega) (by omega)]
     have c1 : (acc.length : Int) < (s.length : Int) := by omega
     unfold zh0
     by_cases h1 : b.toNat = 46
     ·simp [h1, c1]; omega
     ·have h1' : ¬ ((b.toNat : Int) = 46) := by omega
      by_cases h2 : 49 ≤ b.toNat ∧ b.toNat ≤ 57
      ·have e1 : wu8 ((b.toNat : Int) - 48) = (b.toNat : Int) - 48 := by unfold wu8; rw [IntKind.wrap_u8]; omega
       have e2 : w64 ((b.toNat : Int) - 48) = (b.toNat : Int) - 48 := zae (by omega) (by omega)
       have h3 : (49 : Int) ≤ b.toNat := by omega
       have h4 : (b.toNat : Int) ≤ 57 := by omega
       simp [h1, h1', c1, e1, e2, h2, h3, h4, zc9]; omega
      ·by_cases h3 : (49 : Int) ≤ b.toNat
       ·have h4 : ¬ ((b.toNat : Int) ≤ 57) := by omega
        simp [h1, h1', c1, h2, h3, h4]
       ·simp [h1, h1', c1, h2, h3]
    ·cases hc : zh0 b with
     | some z => rw [hc] at h; cases h; simp
     | none => rw [hc] at h; cases h)
   (by intro acc hk; simp [zd1, T.run])
   0 [] (Nat.zero_le _) rfl
  rw [List.drop_zero] at h
  replace h := h.trans (congrArg some (z7f _ _ _ _))
  simp only [T.run, za34]
  rw [show ((0 : Nat) : Int) = 0 from rfl] at h
  simp only [h, qw]
  cases hp : zf5 s with
  | none => simp [zaxj]
  | some r =>
   have hrl := zjs hp
   have := zmz r (by omega)
   simp only [qa, Sum.isLeft, Sum.getRight?, zap, this]
   cases isPz r <;> simp [zaxj]
def rot1 (l : List Int) : List Int := l.drop 1 ++ l.take 1
def ltDL : List Dg → List Dg → Bool
 | d :: l, e :: m => if d = e then ltDL l m else ltD d e
 | _, _ => false
def upDL : List (List Dg) → Bool
 | a :: b :: t => ltDL a b && upDL (b :: t)
 | _ => true
theorem za4v : ∀ n : Nat, n ≤ 9 → 3 ≤ n → ((allT n).all fun ds => decide (trOf (quid n ds) = some ds) && (trOf (rot1 (quid n ds))).isSome) = true ∧ upDL (allT n) = true := by decide +kernel
theorem zabu : ∀ a : List Dg, ltDL a a = false
 | [] => rfl
 | d :: l => by unfold ltDL; rw [if_pos rfl]; exact zabu l
theorem zaso : ∀ a b c : List Dg, ltDL a b = true → ltDL b c = true → ltDL a c = true
 | [], _, _, h, _ => by simp [ltDL] at h
 | _ :: _, [], _, h, _ => by simp [ltDL] at h
 | _ :: _, _ :: _, [], _, h => by simp [ltDL] at h
 | d :: l, e :: m, f :: k, h1, h2 => by
  unfold ltDL at h1 h2 ⊢
  by_cases c1 : d = e
  ·subst c1
   rw [if_pos rfl] at h1
   by_cases c2 : d = f
   ·rw [if_pos c2] at h2 ⊢
    exact zaso l m k h1 h2
   ·rw [if_neg c2] at h2 ⊢
    exact h2
  ·rw [if_neg c1] at h1
   by_cases c2 : e = f
   ·subst c2
    rw [if_neg c1]
    exact h1
   ·rw [if_neg c2] at h2
    rw [zg2] at h1 h2
    have h3 : ltD d f = true := zg2.2 (by omega)
    have hne : d ≠ f := fun e' => by
     subst e'
     rw [zg2] at h3
     omega
    rw [if_neg hne]
    exact h3
theorem zauy : ∀ l : List (List Dg), upDL l = true → l.Pairwise fun a b => ltDL a b = true
 | [], _ => List.Pairwise.nil
 | [a], _ => by simp
 | a :: b :: t, h => by
  unfold upDL at h
  rw [qo] at h
  have ih := zauy (b :: t) h.2
  refine List.pairwise_cons.2 ⟨fun x hx => ?_, ih⟩
  rcases List.mem_cons.1 hx with rfl | hx
  ·exact h.1
  ·exact zaso a b x h.1 ((List.pairwise_cons.1 ih).1 x hx)
theorem zsj (n : Nat) : (allQ n).Perm ((allT n).map (quid n)) := zfh _
theorem zlk {n : Nat} (h3 : 3 ≤ n) (h9 : n ≤ 9) {ds : List Dg} (h : ds ∈ allT n) : trOf (quid n ds) = some ds ∧ (trOf (rot1 (quid n ds))).isSome = true := by
 have := qt.1 (za4v n h9 h3).1 ds h
 rw [qo, kf] at this
 exact this
theorem zao1 {n : Nat} (h3 : 3 ≤ n) (h9 : n ≤ 9) {q : List Int} (h : q ∈ allQ n) : (trOf q).isSome = true := by
 obtain ⟨ds, hds, rfl⟩ := List.mem_map.1 ((zsj n).mem_iff.1 h)
 rw [(zlk h3 h9 hds).1]; rfl
theorem zvl {n : Nat} (h3 : 3 ≤ n) (h9 : n ≤ 9) : (allQ n).Nodup := by
 refine (zsj n).nodup_iff.2 ?_
 rw [List.nodup_iff_pairwise_ne, List.pairwise_map]
 refine (zauy _ (za4v n h9 h3).2).imp_of_mem fun {a b} ha hb hab e => ?_
 have e1 := (zlk h3 h9 ha).1
 have e2 := (zlk h3 h9 hb).1
 rw [e, e2] at e1
 obtain rfl := Option.some.inj e1
 rw [zabu] at hab
 cases hab
theorem zbcd {n : Nat} (h3 : 3 ≤ n) (h9 : n ≤ 9) : (allQ n).Pairwise fun a b => ltL a b = true := by
 refine ((zz6 _).and (zvl h3 h9)).imp fun {a b} h => ?_
 obtain ⟨h1, h2⟩ := h
 cases hl : ltL a b with
 | true => rfl
 | false =>
  have hb : ltL b a = false := by unfold leL at h1; simpa using h1
  exact absurd (zzn hl hb) h2
theorem zgb (l : List Int) : (rot1 l).length = l.length := by
 unfold rot1
 rw [ql, kb, kp]
 omega
theorem zjt (l : List Int) (i : Nat) : (rot1 l).getD i 0 = if i + 1 < l.length then l.getD (i + 1) 0 else if i + 1 = l.length then l.getD 0 0 else 0 := by
 unfold rot1
 cases l with
 | nil => simp
 | cons a t =>
  simp only [List.drop_succ_cons, List.drop_zero, List.take_succ_cons, List.take_zero, qk, Nat.add_lt_add_iff_right, Nat.add_right_cancel_iff]
  rw [qg, List.getElem?_append]
  by_cases h : i < t.length
  ·rw [if_pos h, if_pos h, qg, List.getElem?_cons_succ]
  ·rw [if_neg h, if_neg h]
   by_cases h2 : i = t.length
   ·rw [if_pos h2, h2, Nat.sub_self]; rfl
   ·rw [if_neg h2, List.getElem?_eq_none (by simp; omega)]; rfl
theorem zayg {p q : List Int} (hl : p.length = q.length) : fits (rot1 p) (rot1 q) = fits p q := by
 rw [Bool.eq_iff_iff, zjh, zjh, zgb, zgb]
 refine and_congr_right fun _ => ?_
 constructor
 ·intro h i
  by_cases h0 : i = 0
  ·subst h0
   have := h (p.length - 1)
   rw [zjt, zjt] at this
   by_cases hp : p.length = 0
   ·left
    rw [qg, List.getElem?_eq_none (by omega)]; rfl
   ·rw [if_neg (by omega), if_pos (by omega), if_neg (by omega), if_pos (by omega)] at this
    exact this
  ·by_cases hi : i < p.length
   ·have := h (i - 1)
    rw [zjt, zjt, if_pos (by omega), if_pos (by omega), show i - 1 + 1 = i by omega] at this
    exact this
   ·left
    rw [qg, List.getElem?_eq_none (by omega)]; rfl
 ·intro h i
  rw [zjt, zjt]
  by_cases h1 : i + 1 < p.length
  ·rw [if_pos h1, if_pos (by omega)]; exact h (i + 1)
  ·rw [if_neg h1]
   by_cases h2 : i + 1 = p.length
   ·rw [if_pos h2, if_neg (by omega), if_pos (by omega)]; exact h 0
   ·rw [if_neg h2]; exact .inl rfl
theorem za1w {p q : List Int} (h : rot1 p = rot1 q) : p = q := by
 have hl : p.length = q.length := by rw [← zgb p, ← zgb q, h]
 unfold rot1 at h
 cases p with
 | nil => cases q with
  | nil => rfl
  | cons b t => simp at hl
 | cons a s => cases q with
  | nil => simp at hl
  | cons b t =>
   simp only [List.drop_succ_cons, List.drop_zero, List.take_succ_cons, List.take_zero] at h
   obtain ⟨h1, h2⟩ := List.append_inj h (by simpa using hl)
   rw [h1, (List.cons.inj h2).1]
theorem ztw {X : Type} [DecidableEq X] : ∀ (a b : List X), a.Nodup → (∀ x ∈ a, x ∈ b) → b.length ≤ a.length → a.Perm b
 | [], b, _, _, hl => by
  cases b with
  | nil => exact List.Perm.nil
  | cons x t => simp at hl
 | x :: t, b, hn, hs, hl => by
  obtain ⟨h1, h2⟩ := List.nodup_cons.1 hn
  have hx : x ∈ b := hs x (by simp)
  have hp := List.perm_cons_erase hx
  have ih := ztw t (b.erase x) h2 (fun y hy => (List.mem_erase_of_ne (fun e : y = x => h1 (e ▸ hy))).2 (hs y (by simp [hy]))) (by
   have := hp.length_eq
   rw [qk] at this hl
   omega)
  exact (ih.cons x).trans hp.symm
theorem zax4 {n : Nat} (h3 : 3 ≤ n) (h9 : n ≤ 9) : ((allQ n).map rot1).Perm (allQ n) := by
 have hnd := zvl h3 h9
 have hnm : ((allQ n).map rot1).Nodup := by
  rw [List.nodup_iff_pairwise_ne, List.pairwise_map]
  exact hnd.imp fun {a b} h e => h (za1w e)
 have hsub : ∀ x ∈ (allQ n).map rot1, x ∈ allQ n := fun x hx => by
  obtain ⟨q, hq, rfl⟩ := List.mem_map.1 hx
  have hl := zp0 hq
  obtain ⟨ds, hds, rfl⟩ := List.mem_map.1 ((zsj n).mem_iff.1 hq)
  have := z3z (l := rot1 (quid n ds)) (by rw [zgb, hl]; exact h9) (zlk h3 h9 hds).2
  rwa [zgb, hl] at this
 exact ztw _ _ hnm hsub (by rw [km]; exact qi _)
theorem zber {p : List Int} (h3 : 3 ≤ p.length) (h9 : p.length ≤ 9) : (solL (rot1 p)).length = (solL p).length := by
 unfold solL
 rw [zgb, ← List.countP_eq_length_filter, ← List.countP_eq_length_filter, ← (zax4 h3 h9).countP_eq, List.countP_map]
 refine List.countP_congr fun q hq => ?_
 rw [Function.comp, zayg (by rw [zp0 hq])]
theorem z4u (q : List Int) : ∀ (l : List Nat) (s : List Int) (k : Nat), (l.foldl (zop q) s).getD k 0 = 0 ∨ ((l.foldl (zop q) s).getD k 0 = s.getD k 0 ∧ (k ∈ l → s.getD k 0 = q.getD k 0))
 | [], s, k => .inr ⟨rfl, fun h => by cases h⟩
 | j :: t, s, k => by
  rw [List.foldl_cons]
  have hg : (zop q s j).getD k 0 = if s.getD j 0 ≠ q.getD j 0 ∧ j = k then 0 else s.getD k 0 := by
   unfold zop
   by_cases h : s.getD j 0 ≠ q.getD j 0
   ·rw [if_pos h, zp6]
    by_cases hj : j = k
    ·subst hj
     by_cases hl : j < s.length
     ·rw [if_pos ⟨rfl, hl⟩, if_pos ⟨h, rfl⟩]
     ·rw [if_neg (by omega), if_pos ⟨h, rfl⟩, qg, List.getElem?_eq_none (by omega)]; rfl
    ·rw [if_neg (by omega), if_neg fun h => hj h.2]
   ·rw [if_neg h, if_neg fun h2 => h h2.1]
  rcases z4u q t (zop q s j) k with h | ⟨h1, h2⟩
  ·exact .inl h
  ·rw [hg] at h1 h2
   by_cases hc : s.getD j 0 ≠ q.getD j 0 ∧ j = k
   ·rw [if_pos hc] at h1
    exact .inl h1
   ·rw [if_neg hc] at h1 h2
    refine .inr ⟨h1, fun hk => ?_⟩
    rcases List.mem_cons.1 hk with rfl | hk
    ·exact Classical.not_not.1 fun h => hc ⟨h, rfl⟩
    ·exact h2 hk
theorem zauq (s q : List Int) (k : Nat) : (zh5 s q).getD k 0 = 0 ∨ ((zh5 s q).getD k 0 = s.getD k 0 ∧ (k < s.length → s.getD k 0 = q.getD k 0)) := by
 unfold zh5
 rcases z4u q (List.range s.length) s k with h | ⟨h1, h2⟩
 ·exact .inl h
 ·exact .inr ⟨h1, fun hk => h2 (List.mem_range.2 hk)⟩
theorem zml : ∀ (l : List (List Int)) (s : List Int) (k : Nat), k < s.length → (l.foldl zh5 s).getD k 0 = 0 ∨ ((l.foldl zh5 s).getD k 0 = s.getD k 0 ∧ ∀ q ∈ l, s.getD k 0 = q.getD k 0)
 | [], s, k, hk => .inr ⟨rfl, fun q h => by cases h⟩
 | a :: t, s, k, hk => by
  rw [List.foldl_cons]
  rcases zml t (zh5 s a) k (by rw [zmk]; exact hk) with h | ⟨h1, h2⟩
  ·exact .inl h
  ·rcases zauq s a k with h | ⟨h3, h4⟩
   ·rw [h] at h1; exact .inl h1
   ·rw [h3] at h1 h2
    refine .inr ⟨h1, fun q hq => ?_⟩
    rcases List.mem_cons.1 hq with rfl | hq
    ·exact h4 hk
    ·exact h2 q hq
theorem zacx {p : List Int} (h : (surR p).1 = true) {k : Nat} (hk : k < p.length) (h0 : (surR p).2.getD k 0 ≠ 0) : ∀ q ∈ (solR p).2, (surR p).2.getD k 0 = q.getD k 0 := by
 unfold surR at h h0 ⊢
 have hm : ∀ q ∈ (solR p).2, q.length = p.length ∧ p.length ≤ 9 := fun q h => zfl h
 generalize solR p = r at *
 obtain ⟨ok, l⟩ := r
 simp only at hm h h0 ⊢
 cases ok with
 | false => cases l <;> simp at h
 | true =>
  cases l with
  | nil => simp at h
  | cons a t =>
   simp only at h0 ⊢
   intro q hq
   have ha := (hm a (by simp)).1
   rcases zml (a :: t) a k (by omega) with h1 | ⟨h1, h2⟩
   ·exact absurd h1 h0
   ·rw [h1, h2 q hq]
theorem zapv {p : List Int} {j : Nat} {v : Int} (hp : p.getD j 0 = 0) (hs : ∀ q ∈ solL p, q.getD j 0 = v) : solL (p.set j v) = solL p := by
 unfold solL at hs ⊢
 rw [qy]
 refine List.filter_congr fun q hq => ?_
 rw [Bool.eq_iff_iff]
 constructor
 ·intro h
  rw [zjh] at h ⊢
  rw [qy] at h
  refine ⟨h.1, fun i => ?_⟩
  by_cases hi : i = j
  ·subst hi; exact .inl hp
  ·have := h.2 i
   rw [zp6, if_neg (by omega)] at this
   exact this
 ·intro h
  have hv := hs q (List.mem_filter.2 ⟨hq, h⟩)
  rw [zjh] at h ⊢
  rw [qy]
  refine ⟨h.1, fun i => ?_⟩
  rw [zp6]
  by_cases hi : j = i ∧ j < p.length
  ·rw [if_pos hi, ← hi.1, hv]; exact .inr rfl
  ·rw [if_neg hi]; exact h.2 i
theorem zbjw {p : List Int} : ∀ d ∈ (sdR p).2, ∀ q ∈ (solR p).2, d ∈ dOf q := by
 unfold sdR
 generalize solR p = r
 obtain ⟨ok, l⟩ := r
 simp only
 have key : ∀ (t : List (List Int)) (o : List Dg), ∀ d ∈ t.foldl (fun out r => out.filter (hasD (dOf r))) o, d ∈ o ∧ ∀ q ∈ t, d ∈ dOf q := by
  intro t
  induction t with
  | nil => intro o d hd; exact ⟨hd, fun q hq => by cases hq⟩
  | cons a t ih =>
   intro o d hd
   rw [List.foldl_cons] at hd
   obtain ⟨h1, h2⟩ := ih _ d hd
   obtain ⟨h3, h4⟩ := List.mem_filter.1 h1
   have ha : d ∈ dOf a := by
    unfold hasD at h4
    obtain ⟨x, hx, e⟩ := List.any_eq_true.1 h4
    rw [(zs6 _ _).1 e]; exact hx
   refine ⟨h3, fun q hq => ?_⟩
   rcases List.mem_cons.1 hq with rfl | hq
   ·exact ha
   ·exact h2 q hq
 cases ok with
 | false => cases l <;> exact fun d hd => by cases hd
 | true =>
  cases l with
  | nil => exact fun d hd => by cases hd
  | cons a t =>
   intro d hd q hq
   obtain ⟨h1, h2⟩ := key t (dOf a) d hd
   rcases List.mem_cons.1 hq with rfl | hq
   ·exact h1
   ·exact h2 q hq
theorem zapc : ∀ x : Nat, x < 10 → zh0 (if (x : Int) = 0 then 46 else UInt8.ofNat (48 + x)) = some (x : Int) := by decide +kernel
theorem zwn : ∀ p : List Int, (∀ x ∈ p, 0 ≤ x ∧ x ≤ 9) → zf5 (pzT p) = some p
 | [], _ => rfl
 | x :: p, h => by
  have ih := zwn p fun y hy => h y (by simp [hy])
  have hx := h x (by simp)
  have hc := zapc x.toNat (by omega)
  rw [Int.toNat_of_nonneg hx.1] at hc
  unfold pzT at ih ⊢
  rw [qu, zf5, hc, ih]
  rfl
theorem zatw {p : List Int} (h : isPz p = true) : zh3 (pzT p) = (true, p) := by
 obtain ⟨h1, h2⟩ := zzh h
 unfold zh3
 have hl : (pzT p).length = p.length := by unfold pzT; rw [km]
 rw [if_neg (by omega), zwn p h2]
 simp only [h, if_true]
theorem zz4 {p : List Int} (h : (solR p).1 = true) : isPz p = true ∧ (solR p).2 = solL p ∧ (solL p).length ≤ 300 := by
 unfold solR at h ⊢
 split at h
 ·rename_i hp
  split at h
  ·rename_i hl
   rw [if_pos hp, if_pos hl]
   exact ⟨hp, rfl, hl⟩
  ·cases h
 ·cases h
theorem zaul {p : List Int} (hp : isPz p = true) (hl : (solL p).length ≤ 300) : solR p = (true, solL p) := by
 unfold solR
 rw [if_pos hp, if_pos hl]
theorem zact {p q : List Int} (hp : isPz p = true) (hq : q ∈ solL p) : (trOf q).isSome = true ∧ fits p q = true ∧ q.length = p.length := by
 have hl := zdk hp
 obtain ⟨h1, h2⟩ := List.mem_filter.1 hq
 exact ⟨zao1 hl.1 hl.2 h1, h2, zp0 h1⟩
theorem zbjy {p : List Int} (hp : isPz p = true) : (solL p).Pairwise fun a b => ltL a b = true := by
 have hl := zdk hp
 exact (zbcd hl.1 hl.2).filter _
theorem zabs {p : List Int} : isPz p = true ↔ (3 ≤ p.length ∧ p.length ≤ 9) ∧ ∀ x ∈ p, 0 ≤ x ∧ x ≤ (p.length : Int) - 2 := by
 unfold isPz
 rw [qo, zay, qt]
 simp only [zay]
 constructor
 ·rintro ⟨h1, h2⟩; exact ⟨by omega, h2⟩
 ·rintro ⟨h1, h2⟩; exact ⟨by omega, h2⟩
theorem za0t {p : List Int} (h : isPz p = true) : isPz (rot1 p) = true := by
 rw [zabs] at h ⊢
 rw [zgb]
 refine ⟨h.1, fun x hx => h.2 x ?_⟩
 unfold rot1 at hx
 rcases kg.1 hx with hx | hx
 ·exact List.mem_of_mem_drop hx
 ·exact List.mem_of_mem_take hx
theorem zafs {p : List Int} (h : (solR p).1 = true) : zaux p 1 = (true, rot1 p) ∧ (solR (rot1 p)).1 = true ∧ (solR (rot1 p)).2.length = (solR p).2.length := by
 obtain ⟨h1, h2, h3⟩ := zz4 h
 have hl := zdk h1
 have hr := zber hl.1 hl.2
 have hs := zaul (za0t h1) (by rw [hr]; exact h3)
 refine ⟨?_, by rw [hs], by rw [hs, h2, hr]⟩
 unfold zaux
 rw [if_pos (by rw [h1, zay.2 (by omega)]; rfl)]
 rfl
theorem z2x {p : List Int} {at' number : Int} (h : z2w p = (at', number, true)) : ∃ j : Nat, at' = (j : Int) ∧ j < p.length ∧ (surR p).1 = true ∧ p.getD j 0 = 0 ∧ (surR p).2.getD j 0 = number ∧ zapt p at' number = (true, p.set j number) ∧ (solR (p.set j number)).1 = true ∧ (solR (p.set j number)).2.length = (solR p).2.length := by
 unfold z2w at h
 split at h
 case isFalse => cases h
 rename_i hs
 cases hh : zaes p (surR p).2 with
 | none => rw [hh] at h; cases h
 | some j =>
  rw [hh] at h
  simp only [qr, and_true] at h
  obtain ⟨rfl, rfl⟩ := h
  have hf := List.find?_some hh
  have hm := List.mem_range.1 (List.mem_of_find?_eq_some hh)
  rw [qo, beq_iff_eq, kf] at hf
  obtain ⟨f1, f2⟩ := hf
  have hok : (solR p).1 = true ∧ (solR p).2 ≠ [] := by
   unfold surR at hs
   generalize solR p = r at hs
   obtain ⟨ok, l⟩ := r
   cases ok with
   | false => cases l <;> simp at hs
   | true => cases l with
    | nil => simp at hs
    | cons a t => exact ⟨rfl, by simp⟩
  obtain ⟨s1, s2, s3⟩ := zz4 hok.1
  have hl := zdk s1
  have hall := zacx hs hm (by omega)
  rw [s2] at hall hok
  obtain ⟨q, t, hqt⟩ : ∃ q t, solL p = q :: t := by
   cases hc : solL p with
   | nil => exact absurd hc hok.2
   | cons q t => exact ⟨q, t, rfl⟩
  have hq : q ∈ solL p := by rw [hqt]; simp
  obtain ⟨k1, k2, k3⟩ := zact s1 hq
  have hqj := hall q hq
  have hb : 1 ≤ (surR p).2.getD j 0 ∧ (surR p).2.getD j 0 ≤ (p.length : Int) - 2 := by
   rw [hqj]
   have hjq : j < q.length := by omega
   have := (zhz k1).2 (q.getD j 0) (by rw [qg, qb hjq]; exact List.getElem_mem hjq)
   rw [k3] at this
   exact this
  have hfs := zapv (p := p) (j := j) (v := (surR p).2.getD j 0) f1 (fun q hq => (hall q hq).symm)
  have hpz : isPz (p.set j ((surR p).2.getD j 0)) = true := by
   rw [zabs] at s1 ⊢
   rw [qy]
   refine ⟨s1.1, fun x hx => ?_⟩
   rcases List.mem_or_eq_of_mem_set hx with hx | hx
   ·exact s1.2 x hx
   ·omega
  have hsr := zaul hpz (by rw [hfs]; exact s3)
  refine ⟨j, rfl, hm, hs, f1, rfl, ?_, by rw [hsr], by rw [hsr, hfs, s2]⟩
  have hg : p[j]? = some 0 := by
   rw [qb hm]
   rw [qg, qb hm] at f1
   exact congrArg some f1
  unfold zapt
  rw [if_pos (by rw [s1, zay.2 (by omega), zay.2 (by omega), qe, qd hg]; rfl), qe]
end Go.Proofs.W
noncomputable section
set_option linter.unusedVariables false
set_option linter.unusedSimpArgs false
set_option maxRecDepth 100000
set_option maxHeartbeats 4000000
namespace Go.Proofs.W
open Go Go.Gm Go.Proofs
open Go.RowKit Go.Shelf
def L0_sh : FSh := ⟨[(.one (.sl (.int .u8) false true)), (.one (.sl (.int .u8) false true))], []⟩
def zr2 : LSh := ⟨(fun ex => match ex with | .norm => (nz [1, 5, 6, 7, 10, 14, 15, 18, 22, 26, 27, 28, 36, 37, 305]) | .exit i => [] | .ret => (nz [4])), [(1, qo7), (5, qo3), (6, qo8), (7, qo2), (8, (.one (.rw 3 0))), (9, qo2), (10, qo1), (11, qo2), (12, qo1), (13, qo2), (14, (.one (.sl (.int .i64) false true))), (15, qo2), (16, (.one (.sl (.int .i64) false true))), (17, qo2), (18, (.one (.rw 4 0))), (19, qo2), (20, (.one (.rw 5 0))), (21, qo2), (22, (.one (.rw 6 0))), (23, qo2), (24, (.one (.rw 7 0))), (25, qo2), (26, qo1), (27, qo1), (28, qo2), (29, qo1), (30, qo1), (31, qo2), (32, qo1), (33, qo2), (34, qo1), (35, qo2), (36, qo6), (37, qo2), (38, qo6), (39, qo2)], [(.rcd 0 [(.rw 1 0)]), qr1, qr2, qr2, qr1, qr1, (.row 0 (.pair (.int .i64) (.int .i64))), (.row 0 (.pair (.int .i64) (.int .i64)))], [⟨.norm, [(1, qo7), (5, qo3), (6, qo8), (7, qo2), (10, qo1), (14, (.one (.sl (.int .i64) false true))), (15, qo2), (18, (.one (.rw 3 0))), (22, (.one (.rw 4 0))), (26, qo1), (27, qo1), (28, qo2), (36, qo6), (37, qo2), (305, qo2)], [(.rcd 0 [(.rw 1 0)]), qr1, qr2, qr1, (.row 0 (.pair (.int .i64) (.int .i64)))]⟩], [], []⟩
def zko : ((List Int × Unit × Unit × Bool × Unit × Bool × Int × Bool × Int × Bool × List Int × Bool × List Int × Bool × Unit × Bool × Unit × Bool × Unit × Bool × Unit × Bool × Int × Int × Bool × Int × Int × Bool × Int × Bool × Int × Bool × List UInt8 × Bool × List UInt8 × Bool) × (Unit × List Int × List (List Int) × List (List Int) × List Int × List Int × List (Int × Int) × List (Int × Int))) → T ((List Int × Unit × Unit × Bool × Int × List Int × Bool × Unit × Unit × Int × Int × Bool × List UInt8 × Bool × Bool) × (Unit × List Int × List (List Int) × List Int × List (Int × Int))) := fun ((more, (), (), ok, (), fine, count, one, want, two, first, three, model, four, (), five, (), six, (), seven, (), eight, at', number, nine, zb2, hint, ten, gaps, eleven, list, twelve, text, thirteen, shown, fourteen), ((), p_r, all, right, sure, value, cuts, due)) =>(.test (! (ok == fine)) (qz all (qz sure (qz cuts (qz p_r (.ret ((more, ((), ((), (ok, (count, (first, (three, ((), ((), (at', (number, (nine, (text, (thirteen, true)))))))))))))), ((), (p_r, (all, (sure, cuts)))))))))) (.test (decide ((0 + all.length) ≤ all.length)) (.test (decide ((0 + right.length) ≤ right.length)) (.sub (F129 ((win all 0 all.length), (win right 0 right.length))) fun z0 =>(.test (! z0) (qz all (qz sure (qz cuts (qz p_r (.ret ((more, ((), ((), (ok, (count, (first, (three, ((), ((), (at', (number, (nine, (text, (thirteen, true)))))))))))))), ((), (p_r, (all, (sure, cuts)))))))))) (.test (! (one == two)) (qz all (qz sure (qz cuts (qz p_r (.ret ((more, ((), ((), (ok, (count, (first, (three, ((), ((), (at', (number, (nine, (text, (thirteen, true)))))))))))))), ((), (p_r, (all, (sure, cuts)))))))))) (.test (count != want) (qz all (qz sure (qz cuts (qz p_r (.ret ((more, ((), ((), (ok, (count, (first, (three, ((), ((), (at', (number, (nine, (text, (thirteen, true)))))))))))))), ((), (p_r, (all, (sure, cuts)))))))))) (.test (! (three == four)) (qz all (qz sure (qz cuts (qz p_r (.ret ((more, ((), ((), (ok, (count, (first, (three, ((), ((), (at', (number, (nine, (text, (thirteen, true)))))))))))))), ((), (p_r, (all, (sure, cuts)))))))))) (.sub (F141 (first, model)) fun z1 =>(.test (! z1) (qz all (qz sure (qz cuts (qz p_r (.ret ((more, ((), ((), (ok, (count, (first, (three, ((), ((), (at', (number, (nine, (text, (thirteen, true)))))))))))))), ((), (p_r, (all, (sure, cuts)))))))))) (.test (! (five == six)) (qz all (qz sure (qz cuts (qz p_r (.ret ((more, ((), ((), (ok, (count, (first, (three, ((), ((), (at', (number, (nine, (text, (thirteen, true)))))))))))))), ((), (p_r, (all, (sure, cuts)))))))))) (.test (decide ((0 + sure.length) ≤ sure.length)) (.test (decide ((0 + value.length) ≤ value.length)) (.sub (F141 ((win sure 0 sure.length), (win value 0 value.length))) fun z2 =>(.test (! z2) (qz all (qz sure (qz cuts (qz p_r (.ret ((more, ((), ((), (ok, (count, (first, (three, ((), ((), (at', (number, (nine, (text, (thirteen, true)))))))))))))), ((), (p_r, (all, (sure, cuts)))))))))) (.test (! (seven == eight)) (qz all (qz sure (qz cuts (qz p_r (.ret ((more, ((), ((), (ok, (count, (first, (three, ((), ((), (at', (number, (nine, (text, (thirteen, true)))))))))))))), ((), (p_r, (all, (sure, cuts)))))))))) (.test (decide ((0 + cuts.length) ≤ cuts.length)) (.test (decide ((0 + due.length) ≤ due.length)) (.sub (F143 ((win cuts 0 cuts.length), (win due 0 due.length))) fun z3 =>(.test (! z3) (qz all (qz sure (qz cuts (qz p_r (.ret ((more, ((), ((), (ok, (count, (first, (three, ((), ((), (at', (number, (nine, (text, (thirteen, true)))))))))))))), ((), (p_r, (all, (sure, cuts)))))))))) (.test (! (nine == ten)) (qz all (qz sure (qz cuts (qz p_r (.ret ((more, ((), ((), (ok, (count, (first, (three, ((), ((), (at', (number, (nine, (text, (thirteen, true)))))))))))))), ((), (p_r, (all, (sure, cuts)))))))))) (.test (at' != zb2) (qz all (qz sure (qz cuts (qz p_r (.ret ((more, ((), ((), (ok, (count, (first, (three, ((), ((), (at', (number, (nine, (text, (thirteen, true)))))))))))))), ((), (p_r, (all, (sure, cuts)))))))))) (.test (number != hint) (qz all (qz sure (qz cuts (qz p_r (.ret ((more, ((), ((), (ok, (count, (first, (three, ((), ((), (at', (number, (nine, (text, (thirteen, true)))))))))))))), ((), (p_r, (all, (sure, cuts)))))))))) (.test (! (eleven == twelve)) (qz all (qz sure (qz cuts (qz p_r (.ret ((more, ((), ((), (ok, (count, (first, (three, ((), ((), (at', (number, (nine, (text, (thirteen, true)))))))))))))), ((), (p_r, (all, (sure, cuts)))))))))) (.test (gaps != list) (qz all (qz sure (qz cuts (qz p_r (.ret ((more, ((), ((), (ok, (count, (first, (three, ((), ((), (at', (number, (nine, (text, (thirteen, true)))))))))))))), ((), (p_r, (all, (sure, cuts)))))))))) (.test (! (thirteen == fourteen)) (qz all (qz sure (qz cuts (qz p_r (.ret ((more, ((), ((), (ok, (count, (first, (three, ((), ((), (at', (number, (nine, (text, (thirteen, true)))))))))))))), ((), (p_r, (all, (sure, cuts)))))))))) (.test (! (text == shown)) (qz all (qz sure (qz cuts (qz p_r (.ret ((more, ((), ((), (ok, (count, (first, (three, ((), ((), (at', (number, (nine, (text, (thirteen, true)))))))))))))), ((), (p_r, (all, (sure, cuts)))))))))) (.test (! (one == ok)) (qz all (qz sure (qz cuts (qz p_r (.ret ((more, ((), ((), (ok, (count, (first, (three, ((), ((), (at', (number, (nine, (text, (thirteen, true)))))))))))))), ((), (p_r, (all, (sure, cuts)))))))))) (.test ok (.test (! (three == (decide (count > 0)))) (qz all (qz sure (qz cuts (qz p_r (.ret ((more, ((), ((), (ok, (count, (first, (three, ((), ((), (at', (number, (nine, (text, (thirteen, true)))))))))))))), ((), (p_r, (all, (sure, cuts)))))))))) (.test (! (five == three)) (qz all (qz sure (qz cuts (qz p_r (.ret ((more, ((), ((), (ok, (count, (first, (three, ((), ((), (at', (number, (nine, (text, (thirteen, true)))))))))))))), ((), (p_r, (all, (sure, cuts)))))))))) (.test (! (seven == three)) (qz all (qz sure (qz cuts (qz p_r (.ret ((more, ((), ((), (ok, (count, (first, (three, ((), ((), (at', (number, (nine, (text, (thirteen, true)))))))))))))), ((), (p_r, (all, (sure, cuts)))))))))) (.test nine (.test (! five) (qz all (qz sure (qz cuts (qz p_r (.ret ((more, ((), ((), (ok, (count, (first, (three, ((), ((), (at', (number, (nine, (text, (thirteen, true)))))))))))))), ((), (p_r, (all, (sure, cuts)))))))))) (.test (decide ((0 + p_r.length) ≤ p_r.length)) (.sub (F109 (win p_r 0 p_r.length)) fun z4 =>(.test (! (eleven == z4)) (qz all (qz sure (qz cuts (qz p_r (.ret ((more, ((), ((), (ok, (count, (first, (three, ((), ((), (at', (number, (nine, (text, (thirteen, true)))))))))))))), ((), (p_r, (all, (sure, cuts)))))))))) (.test (decide ((0 + p_r.length) ≤ p_r.length)) (.sub (F109 (win p_r 0 p_r.length)) fun z5 =>(.test (decide ((0 + p_r.length) ≤ p_r.length)) (.sub (F112 (win p_r 0 p_r.length)) fun z6 =>(.test (! (z5 == z6)) (qz all (qz sure (qz cuts (qz p_r (.ret ((more, ((), ((), (ok, (count, (first, (three, ((), ((), (at', (number, (nine, (text, (thirteen, true)))))))))))))), ((), (p_r, (all, (sure, cuts)))))))))) (.test (! (thirteen == eleven)) (qz all (qz sure (qz cuts (qz p_r (.ret ((more, ((), ((), (ok, (count, (first, (three, ((), ((), (at', (number, (nine, (text, (thirteen, true)))))))))))))), ((), (p_r, (all, (sure, cuts)))))))))) (.test ok (qz all (qz sure (qz cuts (qz p_r (.ret ((more, ((), ((), (ok, (count, (first, (three, ((), ((), (at', (number, (nine, (text, (thirteen, (! eleven))))))))))))))), ((), (p_r, (all, (sure, cuts)))))))))) (qz all (qz sure (qz cuts (qz p_r (.ret ((more, ((), ((), (ok, (count, (first, (three, ((), ((), (at', (number, (nine, (text, (thirteen, false)))))))))))))), ((), (p_r, (all, (sure, cuts)))))))))))))) .fail)) .fail))) .fail)) (.test (decide ((0 + p_r.length) ≤ p_r.length)) (.sub (F109 (win p_r 0 p_r.length)) fun z7 =>(.test (! (eleven == z7)) (qz all (qz sure (qz cuts (qz p_r (.ret ((more, ((), ((), (ok, (count, (first, (three, ((), ((), (at', (number, (nine, (text, (thirteen, true)))))))))))))), ((), (p_r, (all, (sure, cuts)))))))))) (.test (decide ((0 + p_r.length) ≤ p_r.length)) (.sub (F109 (win p_r 0 p_r.length)) fun z8 =>(.test (decide ((0 + p_r.length) ≤ p_r.length)) (.sub (F112 (win p_r 0 p_r.length)) fun z9 =>(.test (! (z8 == z9)) (qz all (qz sure (qz cuts (qz p_r (.ret ((more, ((), ((), (ok, (count, (first, (three, ((), ((), (at', (number, (nine, (text, (thirteen, true)))))))))))))), ((), (p_r, (all, (sure, cuts)))))))))) (.test (! (thirteen == eleven)) (qz all (qz sure (qz cuts (qz p_r (.ret ((more, ((), ((), (ok, (count, (first, (three, ((), ((), (at', (number, (nine, (text, (thirteen, true)))))))))))))), ((), (p_r, (all, (sure, cuts)))))))))) (.test ok (qz all (qz sure (qz cuts (qz p_r (.ret ((more, ((), ((), (ok, (count, (first, (three, ((), ((), (at', (number, (nine, (text, (thirteen, (! eleven))))))))))))))), ((), (p_r, (all, (sure, cuts)))))))))) (qz all (qz sure (qz cuts (qz p_r (.ret ((more, ((), ((), (ok, (count, (first, (three, ((), ((), (at', (number, (nine, (text, (thirteen, false)))))))))))))), ((), (p_r, (all, (sure, cuts)))))))))))))) .fail)) .fail))) .fail))))) (.test (! (three == false)) (qz all (qz sure (qz cuts (qz p_r (.ret ((more, ((), ((), (ok, (count, (first, (three, ((), ((), (at', (number, (nine, (text, (thirteen, true)))))))))))))), ((), (p_r, (all, (sure, cuts)))))))))) (.test (! (five == three)) (qz all (qz sure (qz cuts (qz p_r (.ret ((more, ((), ((), (ok, (count, (first, (three, ((), ((), (at', (number, (nine, (text, (thirteen, true)))))))))))))), ((), (p_r, (all, (sure, cuts)))))))))) (.test (! (seven == three)) (qz all (qz sure (qz cuts (qz p_r (.ret ((more, ((), ((), (ok, (count, (first, (three, ((), ((), (at', (number, (nine, (text, (thirteen, true)))))))))))))), ((), (p_r, (all, (sure, cuts)))))))))) (.test nine (.test (! five) (qz all (qz sure (qz cuts (qz p_r (.ret ((more, ((), ((), (ok, (count, (first, (three, ((), ((), (at', (number, (nine, (text, (thirteen, true)))))))))))))), ((), (p_r, (all, (sure, cuts)))))))))) (.test (decide ((0 + p_r.length) ≤ p_r.length)) (.sub (F109 (win p_r 0 p_r.length)) fun z10 =>(.test (! (eleven == z10)) (qz all (qz sure (qz cuts (qz p_r (.ret ((more, ((), ((), (ok, (count, (first, (three, ((), ((), (at', (number, (nine, (text, (thirteen, true)))))))))))))), ((), (p_r, (all, (sure, cuts)))))))))) (.test (decide ((0 + p_r.length) ≤ p_r.length)) (.sub (F109 (win p_r 0 p_r.length)) fun z11 =>(.test (decide ((0 + p_r.length) ≤ p_r.length)) (.sub (F112 (win p_r 0 p_r.length)) fun z12 =>(.test (! (z11 == z12)) (qz all (qz sure (qz cuts (qz p_r (.ret ((more, ((), ((), (ok, (count, (first, (three, ((), ((), (at', (number, (nine, (text, (thirteen, true)))))))))))))), ((), (p_r, (all, (sure, cuts)))))))))) (.test (! (thirteen == eleven)) (qz all (qz sure (qz cuts (qz p_r (.ret ((more, ((), ((), (ok, (count, (first, (three, ((), ((), (at', (number, (nine, (text, (thirteen, true)))))))))))))), ((), (p_r, (all, (sure, cuts)))))))))) (.test ok (qz all (qz sure (qz cuts (qz p_r (.ret ((more, ((), ((), (ok, (count, (first, (three, ((), ((), (at', (number, (nine, (text, (thirteen, (! eleven))))))))))))))), ((), (p_r, (all, (sure, cuts)))))))))) (qz all (qz sure (qz cuts (qz p_r (.ret ((more, ((), ((), (ok, (count, (first, (three, ((), ((), (at', (number, (nine, (text, (thirteen, false)))))))))))))), ((), (p_r, (all, (sure, cuts)))))))))))))) .fail)) .fail))) .fail)) (.test (decide ((0 + p_r.length) ≤ p_r.length)) (.sub (F109 (win p_r 0 p_r.length)) fun z13 =>(.test (! (eleven == z13)) (qz all (qz sure (qz cuts (qz p_r (.ret ((more, ((), ((), (ok, (count, (first, (three, ((), ((), (at', (number, (nine, (text, (thirteen, true)))))))))))))), ((), (p_r, (all, (sure, cuts)))))))))) (.test (decide ((0 + p_r.length) ≤ p_r.length)) (.sub (F109 (win p_r 0 p_r.length)) fun z14 =>(.test (decide ((0 + p_r.length) ≤ p_r.length)) (.sub (F112 (win p_r 0 p_r.length)) fun z15 =>(.test (! (z14 == z15)) (qz all (qz sure (qz cuts (qz p_r (.ret ((more, ((), ((), (ok, (count, (first, (three, ((), ((), (at', (number, (nine, (text, (thirteen, true)))))))))))))), ((), (p_r, (all, (sure, cuts)))))))))) (.test (! (thirteen == eleven)) (qz all (qz sure (qz cuts (qz p_r (.ret ((more, ((), ((), (ok, (count, (first, (three, ((), ((), (at', (number, (nine, (text, (thirteen, true)))))))))))))), ((), (p_r, (all, (sure, cuts)))))))))) (.test ok (qz all (qz sure (qz cuts (qz p_r (.ret ((more, ((), ((), (ok, (count, (first, (three, ((), ((), (at', (number, (nine, (text, (thirteen, (! eleven))))))))))))))), ((), (p_r, (all, (sure, cuts)))))))))) (qz all (qz sure (qz cuts (qz p_r (.ret ((more, ((), ((), (ok, (count, (first, (three, ((), ((), (at', (number, (nine, (text, (thirteen, false)))))))))))))), ((), (p_r, (all, (sure, cuts)))))))))))))) .fail)) .fail))) .fail)))))))))))))))) .fail) .fail)))) .fail) .fail))))))))) .fail) .fail))
def z1f (v) := (zko v).run
def zr3 : LSh := ⟨(fun ex => match ex with | .norm => (nz [1, 5, 6, 10, 18, 22, 26, 27, 28, 36, 37, 321]) | .exit i => [] | .ret => (nz [4])), [(1, qo7), (5, qo3), (6, qo8), (10, qo1), (14, (.one (.sl (.int .i64) false true))), (15, qo2), (18, (.one (.rw 3 0))), (22, (.one (.rw 4 0))), (26, qo1), (27, qo1), (28, qo2), (36, qo6), (37, qo2)], [(.rcd 0 [(.rw 1 0)]), qr1, qr2, qr1, (.row 0 (.pair (.int .i64) (.int .i64)))], [⟨.norm, [(1, qo7), (5, qo3), (6, qo8), (10, qo1), (18, (.one (.rw 3 0))), (22, (.one (.rw 4 0))), (26, qo1), (27, qo1), (28, qo2), (36, qo6), (37, qo2), (321, qo2)], [(.rcd 0 [(.rw 1 0)]), qr1, qr2, qr1, (.row 0 (.pair (.int .i64) (.int .i64)))]⟩], [], []⟩
def zkp : ((List Int × Unit × Unit × Int × List Int × Bool × Unit × Unit × Int × Int × Bool × List UInt8 × Bool) × (Unit × List Int × List (List Int) × List Int × List (Int × Int))) → T ((List Int × Unit × Unit × Int × Unit × Unit × Int × Int × Bool × List UInt8 × Bool × Bool) × (Unit × List Int × List (List Int) × List Int × List (Int × Int))) := fun ((more, (), (), count, first, three, (), (), at', number, nine, text, thirteen), ((), p_r, all, sure, cuts)) =>(.test ((all.length : Int) != count) (qz all (qz sure (qz cuts (qz p_r (.ret ((more, ((), ((), (count, ((), ((), (at', (number, (nine, (text, (thirteen, true))))))))))), ((), (p_r, (all, (sure, cuts)))))))))) (.test three (.test (decide (((0 : Int) ≤ (0 : Int)) ∧ (0 < (all.length : Int)))) (.sub (all[0]?) fun z0 =>(.sub (F141 (first, z0)) fun z1 =>(qz all (qz sure (qz cuts (qz p_r (.ret ((more, ((), ((), (count, ((), ((), (at', (number, (nine, (text, (thirteen, (! z1)))))))))))), ((), (p_r, (all, (sure, cuts)))))))))))) .fail) (qz all (qz sure (qz cuts (qz p_r (.ret ((more, ((), ((), (count, ((), ((), (at', (number, (nine, (text, (thirteen, false))))))))))), ((), (p_r, (all, (sure, cuts))))))))))))
def z1g (v) := (zkp v).run
def zr4 : LSh := ⟨(fun ex => match ex with | .norm => (nz [1, 5, 6, 10, 18, 22, 26, 27, 28, 36, 37, 41, 44, 322, 323, 324, 368]) | .exit i => if i = 1 then (nz [1, 5, 6, 10, 18, 22, 26, 27, 28, 36, 37, 322, 323, 324]) else if i = 0 then (nz [1, 5, 10, 18, 26, 27, 28, 36, 37]) else [] | .ret => (nz [4])), [(1, qo7), (5, qo3), (6, qo8), (10, qo1), (18, (.one (.rw 3 0))), (22, (.one (.rw 4 0))), (26, qo1), (27, qo1), (28, qo2), (36, qo6), (37, qo2), (40, qo1), (41, (.one (.sl (.int .i64) false true))), (42, qo2), (43, qo2), (44, (.one (.rw 5 0))), (45, qo2), (322, qo8), (323, qo1), (324, qo1)], [(.rcd 0 [(.rw 1 0)]), qr1, qr2, qr1, (.row 0 (.pair (.int .i64) (.int .i64))), (.row 0 (.pair (.int .i64) (.int .i64)))], [⟨.norm, [(1, qo7), (5, qo3), (6, qo8), (10, qo1), (18, (.one (.rw 3 0))), (22, (.one (.rw 4 0))), (26, qo1), (27, qo1), (28, qo2), (36, qo6), (37, qo2), (41, (.one (.sl (.int .i64) false true))), (44, (.one (.rw 5 0))), (322, qo8), (323, qo1), (324, qo1), (368, qo2)], [(.rcd 0 [(.rw 1 0)]), qr1, qr2, qr1, (.row 0 (.pair (.int .i64) (.int .i64))), (.row 0 (.pair (.int .i64) (.int .i64)))]⟩], [], []⟩
def zkq : ((List Int × Unit × Unit × Int × Unit × Unit × Int × Int × Bool × List UInt8 × Bool × Int × List Int × Bool × Bool × Unit × Bool × Unit × Int × Int) × (Unit × List Int × List (List Int) × List Int × List (Int × Int) × List (Int × Int))) → T ((List Int × Unit × Unit × Int × Unit × Unit × Int × Int × Bool × List UInt8 × Bool × List Int × Unit × Unit × Int × Int × Bool) × (Unit × List Int × List (List Int) × List Int × List (Int × Int) × List (Int × Int))) := fun ((more, (), (), count, (), (), at', number, nine, text, thirteen, i, q, is, fifteen, (), sixteen, (), t323, t324), ((), p_r, all, sure, cuts, ds)) =>(.test (! fifteen) (qz all (qz sure (qz cuts (qz ds (qz all (qz p_r (.ret ((more, ((), ((), (count, ((), ((), (at', (number, (nine, (text, (thirteen, (q, ((), ((), (t323, (t324, true)))))))))))))))), ((), (p_r, (all, (sure, (cuts, ds))))))))))))) (.test (! is) (qz all (qz sure (qz cuts (qz ds (qz all (qz p_r (.ret ((more, ((), ((), (count, ((), ((), (at', (number, (nine, (text, (thirteen, (q, ((), ((), (t323, (t324, true)))))))))))))))), ((), (p_r, (all, (sure, (cuts, ds))))))))))))) (.sub (F97 q) fun z0 =>(.test (! z0) (qz all (qz sure (qz cuts (qz ds (qz all (qz p_r (.ret ((more, ((), ((), (count, ((), ((), (at', (number, (nine, (text, (thirteen, (q, ((), ((), (t323, (t324, true)))))))))))))))), ((), (p_r, (all, (sure, (cuts, ds))))))))))))) (.test (decide (i > 0)) (.test (decide ((0 ≤ (w64 (i - 1))) ∧ ((w64 (i - 1)) < (all.length : Int)))) (.sub (all[(0 + (Int.toNat (w64 (i - 1))))]?) fun z1 =>(.sub (F144 (z1, q)) fun z2 =>(.test (! z2) (qz all (qz sure (qz cuts (qz ds (qz all (qz p_r (.ret ((more, ((), ((), (count, ((), ((), (at', (number, (nine, (text, (thirteen, (q, ((), ((), (t323, (t324, true)))))))))))))))), ((), (p_r, (all, (sure, (cuts, ds))))))))))))) (qz all (qz sure (qz cuts (qz ds (qz all (qz p_r (.ret ((more, ((), ((), (count, ((), ((), (at', (number, (nine, (text, (thirteen, (q, ((), ((), (t323, (t324, (! sixteen))))))))))))))))), ((), (p_r, (all, (sure, (cuts, ds)))))))))))))))) .fail) (qz all (qz sure (qz cuts (qz ds (qz all (qz p_r (.ret ((more, ((), ((), (count, ((), ((), (at', (number, (nine, (text, (thirteen, (q, ((), ((), (t323, (t324, (! sixteen))))))))))))))))), ((), (p_r, (all, (sure, (cuts, ds))))))))))))))))))
def z1i (v) := (zkq v).run
def zr5 : LSh := ⟨(fun ex => match ex with | .norm => (nz [1, 5, 6, 10, 18, 22, 26, 27, 28, 36, 37, 44, 322, 323, 324, 369, 370, 371, 405]) | .exit i => if i = 3 then (nz [1, 5, 6, 10, 18, 22, 26, 27, 28, 36, 37, 44, 322, 323, 324, 369, 370, 371]) else if i = 2 then (nz [1, 5, 6, 10, 18, 22, 26, 27, 28, 36, 37, 44, 322, 323, 324]) else if i = 1 then (nz [1, 5, 6, 10, 18, 22, 26, 27, 28, 36, 37, 322, 323, 324]) else if i = 0 then (nz [1, 5, 10, 18, 26, 27, 28, 36, 37]) else [] | .ret => (nz [4])), [(1, qo7), (5, qo3), (6, qo8), (10, qo1), (18, (.one (.rw 3 0))), (22, (.one (.rw 4 0))), (26, qo1), (27, qo1), (28, qo2), (36, qo6), (37, qo2), (44, (.one (.rw 5 0))), (46, qo1), (47, qo1), (322, qo8), (323, qo1), (324, qo1), (369, (.one (.sl (.int .i64) false true))), (370, qo1), (371, qo1)], [(.rcd 0 [(.rw 1 0)]), qr1, qr2, qr1, (.row 0 (.pair (.int .i64) (.int .i64))), (.row 0 (.pair (.int .i64) (.int .i64)))], [⟨.norm, [(1, qo7), (5, qo3), (6, qo8), (10, qo1), (18, (.one (.rw 3 0))), (22, (.one (.rw 4 0))), (26, qo1), (27, qo1), (28, qo2), (36, qo6), (37, qo2), (44, (.one (.rw 5 0))), (322, qo8), (323, qo1), (324, qo1), (369, (.one (.sl (.int .i64) false true))), (370, qo1), (371, qo1), (405, qo2)], [(.rcd 0 [(.rw 1 0)]), qr1, qr2, qr1, (.row 0 (.pair (.int .i64) (.int .i64))), (.row 0 (.pair (.int .i64) (.int .i64)))]⟩], [], []⟩
def zkr : ((List Int × Unit × Unit × Int × Unit × Unit × Int × Int × Bool × List UInt8 × Bool × Unit × Int × Int × Unit × Int × Int × List Int × Int × Int) × (Unit × List Int × List (List Int) × List Int × List (Int × Int) × List (Int × Int))) → T ((List Int × Unit × Unit × Int × Unit × Unit × Int × Int × Bool × List UInt8 × Bool × Unit × Unit × Int × Int × List Int × Int × Int × Bool) × (Unit × List Int × List (List Int) × List Int × List (Int × Int) × List (Int × Int))) := fun ((more, (), (), count, (), (), at', number, nine, text, thirteen, (), k, x, (), t323, t324, t369, t370, t371), ((), p_r, all, sure, cuts, ds)) =>(.test (decide ((0 ≤ k) ∧ (k < (p_r.length : Int)))) (.sub (p_r[(0 + (Int.toNat k))]?) fun z0 =>(.test (z0 != 0) (.test (decide ((0 ≤ k) ∧ (k < (p_r.length : Int)))) (.sub (p_r[(0 + (Int.toNat k))]?) fun z1 =>(.test (z1 != x) (qz all (qz sure (qz cuts (qz ds (qz all (qz p_r (.ret ((more, ((), ((), (count, ((), ((), (at', (number, (nine, (text, (thirteen, ((), ((), (t323, (t324, (t369, (t370, (t371, true)))))))))))))))))), ((), (p_r, (all, (sure, (cuts, ds))))))))))))) (.test (decide ((0 ≤ k) ∧ (k < (sure.length : Int)))) (.sub (sure[(0 + (Int.toNat k))]?) fun z2 =>(.test (z2 != 0) (.test (decide ((0 ≤ k) ∧ (k < (sure.length : Int)))) (.sub (sure[(0 + (Int.toNat k))]?) fun z3 =>(qz all (qz sure (qz cuts (qz ds (qz all (qz p_r (.ret ((more, ((), ((), (count, ((), ((), (at', (number, (nine, (text, (thirteen, ((), ((), (t323, (t324, (t369, (t370, (t371, (z3 != x))))))))))))))))))), ((), (p_r, (all, (sure, (cuts, ds)))))))))))))) .fail) (qz all (qz sure (qz cuts (qz ds (qz all (qz p_r (.ret ((more, ((), ((), (count, ((), ((), (at', (number, (nine, (text, (thirteen, ((), ((), (t323, (t324, (t369, (t370, (t371, false)))))))))))))))))), ((), (p_r, (all, (sure, (cuts, ds))))))))))))))) .fail))) .fail) (.test (decide ((0 ≤ k) ∧ (k < (sure.length : Int)))) (.sub (sure[(0 + (Int.toNat k))]?) fun z4 =>(.test (z4 != 0) (.test (decide ((0 ≤ k) ∧ (k < (sure.length : Int)))) (.sub (sure[(0 + (Int.toNat k))]?) fun z5 =>(qz all (qz sure (qz cuts (qz ds (qz all (qz p_r (.ret ((more, ((), ((), (count, ((), ((), (at', (number, (nine, (text, (thirteen, ((), ((), (t323, (t324, (t369, (t370, (t371, (z5 != x))))))))))))))))))), ((), (p_r, (all, (sure, (cuts, ds)))))))))))))) .fail) (qz all (qz sure (qz cuts (qz ds (qz all (qz p_r (.ret ((more, ((), ((), (count, ((), ((), (at', (number, (nine, (text, (thirteen, ((), ((), (t323, (t324, (t369, (t370, (t371, false)))))))))))))))))), ((), (p_r, (all, (sure, (cuts, ds))))))))))))))) .fail))) .fail)
def z1j (v) := (zkr v).run
def zrz : LSh := ⟨(fun ex => match ex with | .norm => (nz [1, 5, 6, 10, 18, 22, 26, 27, 28, 36, 37, 44, 322, 323, 324, 369, 370, 371]) | .exit i => if i = 2 then (nz [1, 5, 6, 10, 18, 22, 26, 27, 28, 36, 37, 44, 322, 323, 324]) else if i = 1 then (nz [1, 5, 6, 10, 18, 22, 26, 27, 28, 36, 37, 322, 323, 324]) else if i = 0 then (nz [1, 5, 10, 18, 26, 27, 28, 36, 37]) else [] | .ret => (nz [4])), [(1, qo7), (5, qo3), (6, qo8), (10, qo1), (18, (.one (.rw 3 0))), (22, (.one (.rw 4 0))), (26, qo1), (27, qo1), (28, qo2), (36, qo6), (37, qo2), (44, (.one (.rw 5 0))), (322, qo8), (323, qo1), (324, qo1), (369, (.one (.sl (.int .i64) false true))), (370, qo1), (371, qo1)], [(.rcd 0 [(.rw 1 0)]), qr1, qr2, qr1, (.row 0 (.pair (.int .i64) (.int .i64))), (.row 0 (.pair (.int .i64) (.int .i64)))], [⟨.ret, [(4, qo2)], []⟩, ⟨(.exit 2), [(1, qo7), (5, qo3), (6, qo8), (10, qo1), (18, (.one (.rw 3 0))), (22, (.one (.rw 4 0))), (26, qo1), (27, qo1), (28, qo2), (36, qo6), (37, qo2), (44, (.one (.rw 5 0))), (322, qo8), (323, qo1), (324, qo1)], [(.rcd 0 [(.rw 1 0)]), qr1, qr2, qr1, (.row 0 (.pair (.int .i64) (.int .i64))), (.row 0 (.pair (.int .i64) (.int .i64)))]⟩], [], []⟩
def zd5 : ((List Int × Unit × Unit × Int × Unit × Unit × Int × Int × Bool × List UInt8 × Bool × Unit × Unit × Int × Int × List Int × Int × Int) × (Unit × List Int × List (List Int) × List Int × List (Int × Int) × List (Int × Int))) → T (((List Int × Unit × Unit × Int × Unit × Unit × Int × Int × Bool × List UInt8 × Bool × Unit × Unit × Int × Int × List Int × Int × Int) × (Unit × List Int × List (List Int) × List Int × List (Int × Int) × List (Int × Int))) ⊕ (Bool ⊕ ((List Int × Unit × Unit × Int × Unit × Unit × Int × Int × Bool × List UInt8 × Bool × Unit × Unit × Int × Int) × (Unit × List Int × List (List Int) × List Int × List (Int × Int) × List (Int × Int))))) := fun ((more, (), (), count, (), (), at', number, nine, text, thirteen, (), (), t323, t324, t369, t370, t371), ((), p_r, all, sure, cuts, ds)) =>(.test (decide (t371 < t370)) (.test (decide ((0 ≤ t371) ∧ (t371 < (t369.length : Int)))) (.sub (t369[(Int.toNat t371)]?) fun z0 =>(qz all (qz sure (qz cuts (qz ds (qz all (qz p_r (.sub (z1j ((more, ((), ((), (count, ((), ((), (at', (number, (nine, (text, (thirteen, ((), (t371, (z0, ((), (t323, (t324, (t369, (t370, t371))))))))))))))))))), ((), (p_r, (all, (sure, (cuts, ds))))))) fun z1 =>(.test z1.1.2.2.2.2.2.2.2.2.2.2.2.2.2.2.2.2.2.2 (.ret (Sum.inr (Sum.inl false))) (qz z1.2.2.2.1 (qz z1.2.2.2.2.1 (qz z1.2.2.2.2.2.1 (qz z1.2.2.2.2.2.2 (qz z1.2.2.2.1 (qz z1.2.2.1 (.ret (Sum.inl ((z1.1.1, ((), ((), (z1.1.2.2.2.1, ((), ((), (z1.1.2.2.2.2.2.2.1, (z1.1.2.2.2.2.2.2.2.1, (z1.1.2.2.2.2.2.2.2.2.1, (z1.1.2.2.2.2.2.2.2.2.2.1, (z1.1.2.2.2.2.2.2.2.2.2.2.1, ((), ((), (z1.1.2.2.2.2.2.2.2.2.2.2.2.2.2.1, (z1.1.2.2.2.2.2.2.2.2.2.2.2.2.2.2.1, (z1.1.2.2.2.2.2.2.2.2.2.2.2.2.2.2.2.1, (z1.1.2.2.2.2.2.2.2.2.2.2.2.2.2.2.2.2.1, (w64 (z1.1.2.2.2.2.2.2.2.2.2.2.2.2.2.2.2.2.2.1 + 1))))))))))))))))))), ((), z1.2.2))))))))))))))))))) .fail) (qz all (qz sure (qz cuts (qz ds (qz all (qz p_r (.ret (Sum.inr (Sum.inr ((more, ((), ((), (count, ((), ((), (at', (number, (nine, (text, (thirteen, ((), ((), (t323, t324)))))))))))))), ((), (p_r, (all, (sure, (cuts, ds))))))))))))))))
def za4m (v) := zav (fun v => (zd5 v).run) v
def zr1 : LSh := ⟨(fun ex => match ex with | .norm => (nz [1, 5, 6, 10, 18, 22, 26, 27, 28, 36, 37, 44, 49, 50, 322, 323, 324, 407, 408, 409, 413, 414, 415]) | .exit i => if i = 6 then (nz [1, 5, 6, 10, 18, 22, 26, 27, 28, 36, 37, 44, 50, 322, 323, 324, 407, 408, 409]) else if i = 5 then (nz [1, 5, 6, 10, 18, 22, 26, 27, 28, 36, 37, 44, 322, 323, 324, 407, 408, 409]) else if i = 4 then (nz [1, 5, 6, 10, 18, 22, 26, 27, 28, 36, 37, 322, 323, 324]) else if i = 1 then (nz [1, 5, 6, 10, 18, 22, 26, 27, 28, 36, 37, 322, 323, 324]) else if i = 0 then (nz [1, 5, 10, 18, 26, 27, 28, 36, 37]) else [] | .ret => (nz [4])), [(1, qo7), (5, qo3), (6, qo8), (10, qo1), (18, (.one (.rw 3 0))), (22, (.one (.rw 4 0))), (26, qo1), (27, qo1), (28, qo2), (36, qo6), (37, qo2), (44, (.one (.rw 5 0))), (49, (.one (.pf 6 0 0))), (50, qo2), (322, qo8), (323, qo1), (324, qo1), (407, (.one (.rw 4 0))), (408, qo1), (409, qo1), (413, (.one (.rw 5 0))), (414, qo1), (415, qo1)], [(.rcd 0 [(.rw 1 0)]), qr1, qr2, qr1, (.row 0 (.pair (.int .i64) (.int .i64))), (.row 0 (.pair (.int .i64) (.int .i64))), (.rcd 0 [(.si .i64), (.si .i64)])], [⟨(.exit 6), [(1, qo7), (5, qo3), (6, qo8), (10, qo1), (18, (.one (.rw 3 0))), (22, (.one (.rw 4 0))), (26, qo1), (27, qo1), (28, qo2), (36, qo6), (37, qo2), (44, (.one (.rw 5 0))), (50, qo2), (322, qo8), (323, qo1), (324, qo1), (407, (.one (.rw 4 0))), (408, qo1), (409, qo1)], [(.rcd 0 [(.rw 1 0)]), qr1, qr2, qr1, (.row 0 (.pair (.int .i64) (.int .i64))), (.row 0 (.pair (.int .i64) (.int .i64)))]⟩], [], []⟩
def zd7 : ((List Int × Unit × Unit × Int × Unit × Unit × Int × Int × Bool × List UInt8 × Bool × Unit × Unit × Bool × Unit × Int × Int × Unit × Int × Int × Unit × Int × Int) × (Unit × List Int × List (List Int) × List Int × List (Int × Int) × List (Int × Int) × (Int × Int))) → T (((List Int × Unit × Unit × Int × Unit × Unit × Int × Int × Bool × List UInt8 × Bool × Unit × Unit × Bool × Unit × Int × Int × Unit × Int × Int × Unit × Int × Int) × (Unit × List Int × List (List Int) × List Int × List (Int × Int) × List (Int × Int) × (Int × Int))) ⊕ ((List Int × Unit × Unit × Int × Unit × Unit × Int × Int × Bool × List UInt8 × Bool × Unit × Bool × Unit × Int × Int × Unit × Int × Int) × (Unit × List Int × List (List Int) × List Int × List (Int × Int) × List (Int × Int)))) := fun ((more, (), (), count, (), (), at', number, nine, text, thirteen, (), (), has, (), t323, t324, (), t408, t409, (), t414, t415), ((), p_r, all, sure, cuts, ds, (d_0, d_1))) =>(.test (decide (t415 < t414)) (.test (decide ((0 ≤ t415) ∧ (t415 < (ds.length : Int)))) (.sub (ds[(0 + (Int.toNat t415))]?) fun z0 =>(.test has (qz all (qz sure (qz cuts (qz ds (qz all (qz cuts (qz ds (qz p_r (.ret (Sum.inl ((more, ((), ((), (count, ((), ((), (at', (number, (nine, (text, (thirteen, ((), ((), (true, ((), (t323, (t324, ((), (t408, (t409, ((), (t414, (w64 (t415 + 1)))))))))))))))))))))))), ((), (p_r, (all, (sure, (cuts, (ds, (d_0, d_1)))))))))))))))))) (qz all (qz sure (qz cuts (qz ds (qz all (qz cuts (qz ds (qz p_r (.ret (Sum.inl ((more, ((), ((), (count, ((), ((), (at', (number, (nine, (text, (thirteen, ((), ((), (((z0.1 == d_0) && ((z0.2 == d_1) && true)), ((), (t323, (t324, ((), (t408, (t409, ((), (t414, (w64 (t415 + 1)))))))))))))))))))))))), ((), (p_r, (all, (sure, (cuts, (ds, (d_0, d_1)))))))))))))))))))) .fail) (qz all (qz sure (qz cuts (qz ds (qz all (qz cuts (qz p_r (.ret (Sum.inr ((more, ((), ((), (count, ((), ((), (at', (number, (nine, (text, (thirteen, ((), (has, ((), (t323, (t324, ((), (t408, t409)))))))))))))))))), ((), (p_r, (all, (sure, (cuts, ds))))))))))))))))
def za4o (v) := zav (fun v => (zd7 v).run) v
def zr0 : LSh := ⟨(fun ex => match ex with | .norm => (nz [1, 5, 6, 10, 18, 22, 26, 27, 28, 36, 37, 44, 322, 323, 324, 407, 408, 409]) | .exit i => if i = 4 then (nz [1, 5, 6, 10, 18, 22, 26, 27, 28, 36, 37, 322, 323, 324]) else if i = 1 then (nz [1, 5, 6, 10, 18, 22, 26, 27, 28, 36, 37, 322, 323, 324]) else if i = 0 then (nz [1, 5, 10, 18, 26, 27, 28, 36, 37]) else [] | .ret => (nz [4])), [(1, qo7), (5, qo3), (6, qo8), (10, qo1), (18, (.one (.rw 3 0))), (22, (.one (.rw 4 0))), (26, qo1), (27, qo1), (28, qo2), (36, qo6), (37, qo2), (44, (.one (.rw 5 0))), (322, qo8), (323, qo1), (324, qo1), (407, (.one (.rw 4 0))), (408, qo1), (409, qo1)], [(.rcd 0 [(.rw 1 0)]), qr1, qr2, qr1, (.row 0 (.pair (.int .i64) (.int .i64))), (.row 0 (.pair (.int .i64) (.int .i64)))], [⟨.ret, [(4, qo2)], []⟩, ⟨(.exit 4), [(1, qo7), (5, qo3), (6, qo8), (10, qo1), (18, (.one (.rw 3 0))), (22, (.one (.rw 4 0))), (26, qo1), (27, qo1), (28, qo2), (36, qo6), (37, qo2), (322, qo8), (323, qo1), (324, qo1)], [(.rcd 0 [(.rw 1 0)]), qr1, qr2, qr1, (.row 0 (.pair (.int .i64) (.int .i64)))]⟩], [], []⟩
def zd6 : ((List Int × Unit × Unit × Int × Unit × Unit × Int × Int × Bool × List UInt8 × Bool × Unit × Unit × Int × Int × Unit × Int × Int) × (Unit × List Int × List (List Int) × List Int × List (Int × Int) × List (Int × Int))) → T (((List Int × Unit × Unit × Int × Unit × Unit × Int × Int × Bool × List UInt8 × Bool × Unit × Unit × Int × Int × Unit × Int × Int) × (Unit × List Int × List (List Int) × List Int × List (Int × Int) × List (Int × Int))) ⊕ (Bool ⊕ ((List Int × Unit × Unit × Int × Unit × Unit × Int × Int × Bool × List UInt8 × Bool × Unit × Int × Int) × (Unit × List Int × List (List Int) × List Int × List (Int × Int))))) := fun ((more, (), (), count, (), (), at', number, nine, text, thirteen, (), (), t323, t324, (), t408, t409), ((), p_r, all, sure, cuts, ds)) =>(.test (decide (t409 < t408)) (.test (decide ((0 ≤ t409) ∧ (t409 < (cuts.length : Int)))) (.sub (cuts[(0 + (Int.toNat t409))]?) fun z0 =>(qz all (qz sure (qz cuts (qz ds (qz all (qz cuts (qz ds (qz p_r (.sub (za4o ((more, ((), ((), (count, ((), ((), (at', (number, (nine, (text, (thirteen, ((), ((), (false, ((), (t323, (t324, ((), (t408, (t409, ((), ((ds.length : Int), (0 : Int))))))))))))))))))))))), ((), (p_r, (all, (sure, (cuts, (ds, z0)))))))) fun z1 =>(.test (! z1.1.2.2.2.2.2.2.2.2.2.2.2.2.1) (.ret (Sum.inr (Sum.inl false))) (qz z1.2.2.2.1 (qz z1.2.2.2.2.1 (qz z1.2.2.2.2.2.1 (qz z1.2.2.2.2.2.2 (qz z1.2.2.2.1 (qz z1.2.2.2.2.2.1 (qz z1.2.2.1 (.ret (Sum.inl ((z1.1.1, ((), ((), (z1.1.2.2.2.1, ((), ((), (z1.1.2.2.2.2.2.2.1, (z1.1.2.2.2.2.2.2.2.1, (z1.1.2.2.2.2.2.2.2.2.1, (z1.1.2.2.2.2.2.2.2.2.2.1, (z1.1.2.2.2.2.2.2.2.2.2.2.1, ((), ((), (z1.1.2.2.2.2.2.2.2.2.2.2.2.2.2.2.1, (z1.1.2.2.2.2.2.2.2.2.2.2.2.2.2.2.2.1, ((), (z1.1.2.2.2.2.2.2.2.2.2.2.2.2.2.2.2.2.2.1, (w64 (z1.1.2.2.2.2.2.2.2.2.2.2.2.2.2.2.2.2.2.2 + 1))))))))))))))))))), ((), z1.2.2)))))))))))))))))))))) .fail) (qz all (qz sure (qz cuts (qz all (qz p_r (.ret (Sum.inr (Sum.inr ((more, ((), ((), (count, ((), ((), (at', (number, (nine, (text, (thirteen, ((), (t323, t324))))))))))))), ((), (p_r, (all, (sure, cuts))))))))))))))
def za4n (v) := zav (fun v => (zd6 v).run) v
def zry : LSh := ⟨(fun ex => match ex with | .norm => (nz [1, 5, 6, 10, 18, 22, 26, 27, 28, 36, 37, 322, 323, 324]) | .exit i => if i = 0 then (nz [1, 5, 10, 18, 26, 27, 28, 36, 37]) else [] | .ret => (nz [4])), [(1, qo7), (5, qo3), (6, qo8), (10, qo1), (18, (.one (.rw 3 0))), (22, (.one (.rw 4 0))), (26, qo1), (27, qo1), (28, qo2), (36, qo6), (37, qo2), (322, qo8), (323, qo1), (324, qo1)], [(.rcd 0 [(.rw 1 0)]), qr1, qr2, qr1, (.row 0 (.pair (.int .i64) (.int .i64)))], [⟨.ret, [(4, qo2)], []⟩, ⟨(.exit 0), [(1, qo7), (5, qo3), (10, qo1), (18, qo8), (26, qo1), (27, qo1), (28, qo2), (36, qo6), (37, qo2)], [(.rcd 0 [(.rw 1 0)]), qr1, qr1]⟩], [], []⟩
def zd4 : ((List Int × Unit × Unit × Int × Unit × Unit × Int × Int × Bool × List UInt8 × Bool × Unit × Int × Int) × (Unit × List Int × List (List Int) × List Int × List (Int × Int))) → T (((List Int × Unit × Unit × Int × Unit × Unit × Int × Int × Bool × List UInt8 × Bool × Unit × Int × Int) × (Unit × List Int × List (List Int) × List Int × List (Int × Int))) ⊕ (Bool ⊕ ((List Int × Unit × Int × Unit × Int × Int × Bool × List UInt8 × Bool) × (Unit × List Int × List Int)))) := fun ((more, (), (), count, (), (), at', number, nine, text, thirteen, (), t323, t324), ((), p_r, all, sure, cuts)) =>(.test (decide (t324 < t323)) (.test (decide ((0 ≤ t324) ∧ (t324 < (all.length : Int)))) (.sub (all[(0 + (Int.toNat t324))]?) fun z0 =>(.test (decide ((0 + p_r.length) ≤ p_r.length)) (.sub (F98 ((win p_r 0 p_r.length), z0)) fun z1 =>(.sub (F48 z0) fun z2 =>(qz all (qz sure (qz cuts (qz z2.2 (qz all (qz p_r (.sub (z1i ((more, ((), ((), (count, ((), ((), (at', (number, (nine, (text, (thirteen, (t324, (z0, (z1.1, (z1.2, ((), (z2.1.2, ((), (t323, t324))))))))))))))))))), ((), (p_r, (all, (sure, (cuts, z2.2))))))) fun z3 =>(.test z3.1.2.2.2.2.2.2.2.2.2.2.2.2.2.2.2.2 (.ret (Sum.inr (Sum.inl false))) (qz z3.2.2.2.1 (qz z3.2.2.2.2.1 (qz z3.2.2.2.2.2.1 (qz z3.2.2.2.2.2.2 (qz z3.2.2.2.1 (qz z3.2.2.1 (.sub (za4m ((z3.1.1, ((), ((), (z3.1.2.2.2.1, ((), ((), (z3.1.2.2.2.2.2.2.1, (z3.1.2.2.2.2.2.2.2.1, (z3.1.2.2.2.2.2.2.2.2.1, (z3.1.2.2.2.2.2.2.2.2.2.1, (z3.1.2.2.2.2.2.2.2.2.2.2.1, ((), ((), (z3.1.2.2.2.2.2.2.2.2.2.2.2.2.2.2.1, (z3.1.2.2.2.2.2.2.2.2.2.2.2.2.2.2.2.1, (z3.1.2.2.2.2.2.2.2.2.2.2.2.1, ((z3.1.2.2.2.2.2.2.2.2.2.2.2.1.length : Int), (0 : Int)))))))))))))))))), ((), z3.2.2))) fun z4 =>(.test (Sum.isLeft z4) (.sub (Sum.getLeft? z4) fun z5 =>(.ret (Sum.inr (Sum.inl z5)))) (.sub (Sum.getRight? z4) fun z6 =>(qz z6.2.2.2.1 (qz z6.2.2.2.2.1 (qz z6.2.2.2.2.2.1 (qz z6.2.2.2.2.2.2 (qz z6.2.2.2.1 (qz z6.2.2.2.2.2.1 (qz z6.2.2.1 (.sub (za4n ((z6.1.1, ((), ((), (z6.1.2.2.2.1, ((), ((), (z6.1.2.2.2.2.2.2.1, (z6.1.2.2.2.2.2.2.2.1, (z6.1.2.2.2.2.2.2.2.2.1, (z6.1.2.2.2.2.2.2.2.2.2.1, (z6.1.2.2.2.2.2.2.2.2.2.2.1, ((), ((), (z6.1.2.2.2.2.2.2.2.2.2.2.2.2.2.1, (z6.1.2.2.2.2.2.2.2.2.2.2.2.2.2.2, ((), ((z6.2.2.2.2.2.1.length : Int), (0 : Int)))))))))))))))))), ((), z6.2.2))) fun z7 =>(.test (Sum.isLeft z7) (.sub (Sum.getLeft? z7) fun z8 =>(.ret (Sum.inr (Sum.inl z8)))) (.sub (Sum.getRight? z7) fun z9 =>(qz z9.2.2.2.1 (qz z9.2.2.2.2.1 (qz z9.2.2.2.2.2 (qz z9.2.2.2.1 (qz z9.2.2.1 (.ret (Sum.inl ((z9.1.1, ((), ((), (z9.1.2.2.2.1, ((), ((), (z9.1.2.2.2.2.2.2.1, (z9.1.2.2.2.2.2.2.2.1, (z9.1.2.2.2.2.2.2.2.2.1, (z9.1.2.2.2.2.2.2.2.2.2.1, (z9.1.2.2.2.2.2.2.2.2.2.2.1, ((), (z9.1.2.2.2.2.2.2.2.2.2.2.2.2.1, (w64 (z9.1.2.2.2.2.2.2.2.2.2.2.2.2.2 + 1))))))))))))))), ((), z9.2.2)))))))))))))))))))))))))))))))))))))) .fail)) .fail) (qz sure (qz p_r (.ret (Sum.inr (Sum.inr ((more, ((), (count, ((), (at', (number, (nine, (text, thirteen)))))))), ((), (p_r, sure)))))))))
def za4l (v) := zav (fun v => (zd4 v).run) v
def zr6 : LSh := ⟨(fun ex => match ex with | .norm => (nz [1, 5, 10, 18, 26, 27, 28, 36, 37, 450]) | .exit i => [] | .ret => (nz [4])), [(1, qo7), (5, qo3), (10, qo1), (18, qo8), (26, qo1), (27, qo1), (28, qo2), (36, qo6), (37, qo2), (54, qo2), (55, qo1), (56, qo2)], [(.rcd 0 [(.rw 1 0)]), qr1, qr1], [⟨.norm, [(1, qo7), (5, qo3), (10, qo1), (18, qo8), (26, qo1), (27, qo1), (28, qo2), (36, qo6), (37, qo2), (450, qo2)], [(.rcd 0 [(.rw 1 0)]), qr1, qr1]⟩], [], []⟩
def zks : ((List Int × Unit × Int × Unit × Int × Int × Bool × List UInt8 × Bool × Bool × Int × Bool) × (Unit × List Int × List Int)) → T ((List Int × Unit × Int × Unit × Int × Int × Bool × List UInt8 × Bool × Bool) × (Unit × List Int × List Int)) := fun ((more, (), count, (), at', number, nine, text, thirteen, fifteen, same, sixteen), ((), p_r, sure)) =>(.test (! fifteen) (qz sure (qz p_r (.ret ((more, ((), (count, ((), (at', (number, (nine, (text, (thirteen, true))))))))), ((), (p_r, sure)))))) (.test (! sixteen) (qz sure (qz p_r (.ret ((more, ((), (count, ((), (at', (number, (nine, (text, (thirteen, true))))))))), ((), (p_r, sure)))))) (qz sure (qz p_r (.ret ((more, ((), (count, ((), (at', (number, (nine, (text, (thirteen, (same != count)))))))))), ((), (p_r, sure))))))))
def z1k (v) := (zks v).run
def zrv : LSh := ⟨(fun ex => match ex with | .norm => (nz [1, 5, 10, 18, 26, 27, 28, 36, 37]) | .exit i => [] | .ret => (nz [4])), [(1, qo7), (5, qo3), (6, qo8), (7, qo2), (10, qo1), (14, (.one (.sl (.int .i64) false true))), (15, qo2), (18, (.one (.rw 3 0))), (22, (.one (.rw 4 0))), (26, qo1), (27, qo1), (28, qo2), (36, qo6), (37, qo2)], [(.rcd 0 [(.rw 1 0)]), qr1, qr2, qr1, (.row 0 (.pair (.int .i64) (.int .i64)))], [⟨.ret, [(4, qo2)], []⟩, ⟨.norm, [(1, qo7), (5, qo3), (10, qo1), (18, qo8), (26, qo1), (27, qo1), (28, qo2), (36, qo6), (37, qo2)], [(.rcd 0 [(.rw 1 0)]), qr1, qr1]⟩], [], []⟩
def zkl : ((List Int × Unit × Unit × Bool × Int × List Int × Bool × Unit × Unit × Int × Int × Bool × List UInt8 × Bool) × (Unit × List Int × List (List Int) × List Int × List (Int × Int))) → T (Bool ⊕ ((List Int × Unit × Int × Unit × Int × Int × Bool × List UInt8 × Bool) × (Unit × List Int × List Int))) := fun ((more, (), (), ok, count, first, three, (), (), at', number, nine, text, thirteen), ((), p_r, all, sure, cuts)) =>(.test ok (qz all (qz sure (qz cuts (qz p_r (.sub (z1g ((more, ((), ((), (count, (first, (three, ((), ((), (at', (number, (nine, (text, thirteen)))))))))))), ((), (p_r, (all, (sure, cuts)))))) fun z0 =>(.test z0.1.2.2.2.2.2.2.2.2.2.2.2 (.ret (Sum.inl false)) (qz z0.2.2.2.1 (qz z0.2.2.2.2.1 (qz z0.2.2.2.2.2 (qz z0.2.2.2.1 (qz z0.2.2.1 (.sub (za4l ((z0.1.1, ((), ((), (z0.1.2.2.2.1, ((), ((), (z0.1.2.2.2.2.2.2.1, (z0.1.2.2.2.2.2.2.2.1, (z0.1.2.2.2.2.2.2.2.2.1, (z0.1.2.2.2.2.2.2.2.2.2.1, (z0.1.2.2.2.2.2.2.2.2.2.2.1, ((), ((z0.2.2.2.1.length : Int), (0 : Int)))))))))))))), ((), z0.2.2))) fun z1 =>(.test (Sum.isLeft z1) (.sub (Sum.getLeft? z1) fun z2 =>(.ret (Sum.inl z2))) (.sub (Sum.getRight? z1) fun z3 =>(.test (decide ((0 + z3.2.2.1.length) ≤ z3.2.2.1.length)) (.sub (F99 ((win z3.2.2.1 0 z3.2.2.1.length), (1 : Int))) fun z4 =>(.test (decide ((0 + z4.2.length) ≤ z4.2.length)) (.sub (F51 (win z4.2 0 z4.2.length)) fun z5 =>(qz z3.2.2.2 (qz z3.2.2.1 (.sub (z1k ((z3.1.1, ((), (z3.1.2.2.1, ((), (z3.1.2.2.2.2.1, (z3.1.2.2.2.2.2.1, (z3.1.2.2.2.2.2.2.1, (z3.1.2.2.2.2.2.2.2.1, (z3.1.2.2.2.2.2.2.2.2, (z4.1.2, z5)))))))))), ((), z3.2.2))) fun z6 =>(.test z6.1.2.2.2.2.2.2.2.2.2 (.ret (Sum.inl false)) (qz z6.2.2.2 (qz z6.2.2.1 (.ret (Sum.inr ((z6.1.1, ((), (z6.1.2.2.1, ((), (z6.1.2.2.2.2.1, (z6.1.2.2.2.2.2.1, (z6.1.2.2.2.2.2.2.1, (z6.1.2.2.2.2.2.2.2.1, z6.1.2.2.2.2.2.2.2.2.1)))))))), ((), z6.2.2))))))))))) .fail)) .fail))))))))))))))) (qz sure (qz p_r (.ret (Sum.inr ((more, ((), (count, ((), (at', (number, (nine, (text, thirteen)))))))), ((), (p_r, sure))))))))
def z1b (v) := (zkl v).run
def zr7 : LSh := ⟨(fun ex => match ex with | .norm => (nz [1, 5, 36, 37, 490]) | .exit i => [] | .ret => (nz [4])), [(1, qo7), (5, qo3), (10, qo1), (18, qo8), (26, qo1), (27, qo1), (36, qo6), (37, qo2), (58, qo2), (59, qo1), (60, qo2)], [(.rcd 0 [(.rw 1 0)]), qr1, qr1], [⟨.norm, [(1, qo7), (5, qo3), (36, qo6), (37, qo2), (490, qo2)], [(.rcd 0 [(.rw 1 0)]), qr1]⟩], [], []⟩
def zkt : ((List Int × Unit × Int × Unit × Int × Int × List UInt8 × Bool × Bool × Int × Bool) × (Unit × List Int × List Int)) → T ((List Int × Unit × List UInt8 × Bool × Bool) × (Unit × List Int)) := fun ((more, (), count, (), at', number, text, thirteen, fifteen, same, sixteen), ((), p_r, sure)) =>(.test (decide ((0 ≤ at') ∧ (at' < (p_r.length : Int)))) (.sub (p_r[(0 + (Int.toNat at'))]?) fun z0 =>(.test (z0 != 0) (qz p_r (.ret ((more, ((), (text, (thirteen, true)))), ((), p_r)))) (.test (decide ((0 ≤ at') ∧ (at' < (sure.length : Int)))) (.sub (sure[(0 + (Int.toNat at'))]?) fun z1 =>(.test (z1 != number) (qz p_r (.ret ((more, ((), (text, (thirteen, true)))), ((), p_r)))) (.test (! fifteen) (qz p_r (.ret ((more, ((), (text, (thirteen, true)))), ((), p_r)))) (.test (! sixteen) (qz p_r (.ret ((more, ((), (text, (thirteen, true)))), ((), p_r)))) (qz p_r (.ret ((more, ((), (text, (thirteen, (same != count))))), ((), p_r)))))))) .fail))) .fail)
def z1m (v) := (zkt v).run
def zrw : LSh := ⟨(fun ex => match ex with | .norm => (nz [1, 5, 36, 37]) | .exit i => [] | .ret => (nz [4])), [(1, qo7), (5, qo3), (10, qo1), (18, qo8), (26, qo1), (27, qo1), (28, qo2), (36, qo6), (37, qo2)], [(.rcd 0 [(.rw 1 0)]), qr1, qr1], [⟨.ret, [(4, qo2)], []⟩, ⟨.norm, [(1, qo7), (5, qo3), (36, qo6), (37, qo2)], [(.rcd 0 [(.rw 1 0)]), qr1]⟩], [], []⟩
def zkm : ((List Int × Unit × Int × Unit × Int × Int × Bool × List UInt8 × Bool) × (Unit × List Int × List Int)) → T (Bool ⊕ ((List Int × Unit × List UInt8 × Bool) × (Unit × List Int))) := fun ((more, (), count, (), at', number, nine, text, thirteen), ((), p_r, sure)) =>(.test nine (.test (decide ((0 + p_r.length) ≤ p_r.length)) (.sub (F117 ((win p_r 0 p_r.length), (at', number))) fun z0 =>(.test (decide ((0 + z0.2.length) ≤ z0.2.length)) (.sub (F51 (win z0.2 0 z0.2.length)) fun z1 =>(qz sure (qz p_r (.sub (z1m ((more, ((), (count, ((), (at', (number, (text, (thirteen, (z0.1.2, z1))))))))), ((), (p_r, sure)))) fun z2 =>(.test z2.1.2.2.2.2 (.ret (Sum.inl false)) (qz z2.2.2 (.ret (Sum.inr ((z2.1.1, ((), (z2.1.2.2.1, z2.1.2.2.2.1))), ((), z2.2.2)))))))))) .fail)) .fail) (qz p_r (.ret (Sum.inr ((more, ((), (text, thirteen))), ((), p_r))))))
def z1c (v) := (zkm v).run
def zr8 : LSh := ⟨(fun ex => match ex with | .norm => (nz [1, 504]) | .exit i => [] | .ret => (nz [4])), [(1, qo7), (5, qo3), (61, (.one (.pf 2 0 0))), (62, qo2)], [(.rcd 0 [(.rw 1 0)]), qr1, (.rcd 0 [(.rw 3 0)]), qr1], [⟨.norm, [(1, qo7), (504, qo2)], []⟩], [], []⟩
def zku : ((List Int × Unit × Unit × Bool) × (Unit × List Int × Unit × List Int)) → T (List Int × Bool) := fun ((more, (), (), fifteen), ((), p_r, (), back_r)) =>(.test (! fifteen) (.ret (more, true)) (.test (decide ((0 + back_r.length) ≤ back_r.length)) (.test (decide ((0 + p_r.length) ≤ p_r.length)) (.sub (F118 ((win back_r 0 back_r.length), (win p_r 0 p_r.length))) fun z0 =>(.ret (more, (! z0)))) .fail) .fail))
def z1o (v) := (zku v).run
def zrx : LSh := ⟨(fun ex => match ex with | .norm => (nz [1]) | .exit i => [] | .ret => (nz [4])), [(1, qo7), (5, qo3), (36, qo6), (37, qo2)], [(.rcd 0 [(.rw 1 0)]), qr1], [⟨.ret, [(4, qo2)], []⟩, ⟨.norm, [(1, qo7)], []⟩], [], []⟩
def zkn : ((List Int × Unit × List UInt8 × Bool) × (Unit × List Int)) → T (Bool ⊕ List Int) := fun ((more, (), text, thirteen), ((), p_r)) =>(.test thirteen (.sub (F83 text) fun z0 =>(qz p_r (qz z0.2 (.sub (z1o ((more, ((), ((), z0.1.2))), ((), (p_r, ((), z0.2))))) fun z1 =>(.test z1.2 (.ret (Sum.inl false)) (.ret (Sum.inr z1.1))))))) (.ret (Sum.inr more)))
def z1d (v) := (zkn v).run
def zr9 : LSh := ⟨(fun ex => match ex with | .norm => (nz [69, 70, 71, 552]) | .exit i => [] | .ret => (nz [4])), [(65, qo2), (66, qo2), (67, qo2), (68, qo2), (69, qo6), (70, qo3), (71, qo2), (72, (.one (.pf 2 0 0))), (73, qo2)], [(.rcd 0 [(.rw 1 0)]), qr1, (.rcd 0 [(.rw 3 0)]), qr1], [⟨.norm, [(69, qo6), (70, qo3), (71, qo2), (552, qo2)], [(.rcd 0 [(.rw 1 0)]), qr1]⟩], [], []⟩
def zkv : ((Bool × Bool × Bool × Bool × List UInt8 × Unit × Bool × Unit × Bool) × (Unit × List Int × Unit × List Int)) → T ((List UInt8 × Unit × Bool × Bool) × (Unit × List Int)) := fun ((is, fifteen, own, sixteen, s, (), seventeen, (), eighteen), ((), read_r, (), parsed_r)) =>(.test (! (fifteen == sixteen)) (qz read_r (.ret ((s, ((), (seventeen, true))), ((), read_r)))) (.test (! (is == own)) (qz read_r (.ret ((s, ((), (seventeen, true))), ((), read_r)))) (.test (! (seventeen == eighteen)) (qz read_r (.ret ((s, ((), (seventeen, true))), ((), read_r)))) (.test (decide ((0 + read_r.length) ≤ read_r.length)) (.test (decide ((0 + parsed_r.length) ≤ parsed_r.length)) (.sub (F118 ((win read_r 0 read_r.length), (win parsed_r 0 parsed_r.length))) fun z0 =>(qz read_r (.ret ((s, ((), (seventeen, (! z0)))), ((), read_r))))) .fail) .fail))))
def z1q (v) := (zkv v).run
def zbiy : List FO := [⟨[(.one .sb)], []⟩]
def L0_t : (List Int × List Int) → T Bool := fun (code, more) =>(.sub (F157 (code, more)) fun z0 =>(.test z0 (.ret true) (.sub (F59 code) fun z1 =>(.test (decide ((0 + z1.2.length) ≤ z1.2.length)) (.sub (F102 (win z1.2 0 z1.2.length)) fun z2 =>(.test (decide ((0 + z1.2.length) ≤ z1.2.length)) (.sub (F104 (win z1.2 0 z1.2.length)) fun z3 =>(.test (decide ((0 + z1.2.length) ≤ z1.2.length)) (.sub (F51 (win z1.2 0 z1.2.length)) fun z4 =>(.test (decide ((0 + z1.2.length) ≤ z1.2.length)) (.sub (F52 (win z1.2 0 z1.2.length)) fun z5 =>(.test (decide ((0 + z1.2.length) ≤ z1.2.length)) (.sub (F62 (win z1.2 0 z1.2.length)) fun z6 =>(.test (decide ((0 + z1.2.length) ≤ z1.2.length)) (.sub (F63 (win z1.2 0 z1.2.length)) fun z7 =>(.test (decide ((0 + z1.2.length) ≤ z1.2.length)) (.sub (F77 (win z1.2 0 z1.2.length)) fun z8 =>(.test (decide ((0 + z1.2.length) ≤ z1.2.length)) (.sub (F78 (win z1.2 0 z1.2.length)) fun z9 =>(.test (decide ((0 + z1.2.length) ≤ z1.2.length)) (.sub (F66 (win z1.2 0 z1.2.length)) fun z10 =>(.test (decide ((0 + z1.2.length) ≤ z1.2.length)) (.sub (F67 (win z1.2 0 z1.2.length)) fun z11 =>(.test (decide ((0 + z1.2.length) ≤ z1.2.length)) (.sub (F127 (win z1.2 0 z1.2.length)) fun z12 =>(.test (decide ((0 + z1.2.length) ≤ z1.2.length)) (.sub (F128 (win z1.2 0 z1.2.length)) fun z13 =>(.test (decide ((0 + z1.2.length) ≤ z1.2.length)) (.sub (F106 (win z1.2 0 z1.2.length)) fun z14 =>(.test (decide ((0 + z1.2.length) ≤ z1.2.length)) (.sub (F107 (win z1.2 0 z1.2.length)) fun z15 =>(.test (decide ((0 + z1.2.length) ≤ z1.2.length)) (.sub (F96 (win z1.2 0 z1.2.length)) fun z16 =>(.test (decide ((0 + z1.2.length) ≤ z1.2.length)) (.sub (F95 (win z1.2 0 z1.2.length)) fun z17 =>(qz z2.2 (qz z3.2 (qz z8.2 (qz z9.2 (qz z10.2 (qz z11.2 (qz z1.2 (.sub (z1f ((more, ((), ((), (z2.1.2, ((), (z3.1.2, (z4.1, (z4.2, (z5.1, (z5.2, (z6.1, (z6.2, (z7.1, (z7.2, ((), (z8.1.2, ((), (z9.1.2, ((), (z10.1.2, ((), (z11.1.2, (z12.1, (z12.2.1, (z12.2.2, (z13.1, (z13.2.1, (z13.2.2, (z14.1, (z14.2, (z15.1, (z15.2, (z16.1, (z16.2, z17)))))))))))))))))))))))))))))))))), ((), (z1.2, (z2.2, (z3.2, (z8.2, (z9.2, (z10.2, z11.2))))))))) fun z18 =>(.test z18.1.2.2.2.2.2.2.2.2.2.2.2.2.2.2 (.ret false) (qz z18.2.2.2.1 (qz z18.2.2.2.2.1 (qz z18.2.2.2.2.2 (qz z18.2.2.1 (.sub (z1b ((z18.1.1, ((), ((), (z18.1.2.2.2.1, (z18.1.2.2.2.2.1, (z18.1.2.2.2.2.2.1, (z18.1.2.2.2.2.2.2.1, ((), ((), (z18.1.2.2.2.2.2.2.2.2.2.1, (z18.1.2.2.2.2.2.2.2.2.2.2.1, (z18.1.2.2.2.2.2.2.2.2.2.2.2.1, (z18.1.2.2.2.2.2.2.2.2.2.2.2.2.1, z18.1.2.2.2.2.2.2.2.2.2.2.2.2.2.1))))))))))))), ((), z18.2.2))) fun z19 =>(.test (Sum.isLeft z19) (.sub (Sum.getLeft? z19) fun z20 =>(.ret z20)) (.sub (Sum.getRight? z19) fun z21 =>(qz z21.2.2.2 (qz z21.2.2.1 (.sub (z1c ((z21.1.1, ((), (z21.1.2.2.1, ((), z21.1.2.2.2.2)))), ((), z21.2.2))) fun z22 =>(.test (Sum.isLeft z22) (.sub (Sum.getLeft? z22) fun z23 =>(.ret z23)) (.sub (Sum.getRight? z22) fun z24 =>(qz z24.2.2 (.sub (z1d ((z24.1.1, ((), z24.1.2.2)), ((), z24.2.2))) fun z25 =>(.test (Sum.isLeft z25) (.sub (Sum.getLeft? z25) fun z26 =>(.ret z26)) (.sub (Sum.getRight? z25) fun z27 =>(.sub (F58 z27) fun z28 =>(.test (decide ((0 + z28.2.length) ≤ z28.2.length)) (.sub (F98 ((win z28.2 0 z28.2.length), z28.1.2)) fun z29 =>(.test (decide ((0 + z28.2.length) ≤ z28.2.length)) (.sub (F100 ((win z28.2 0 z28.2.length), z28.1.2)) fun z30 =>(.sub (F50 z27) fun z31 =>(.sub (F83 z31) fun z32 =>(.sub (F84 z31) fun z33 =>(qz z32.2 (qz z33.2 (.sub (z1q ((z29.1, (z29.2, (z30.1, (z30.2, (z31, ((), (z32.1.2, ((), z33.1.2)))))))), ((), (z32.2, ((), z33.2))))) fun z34 =>(.test z34.1.2.2.2 (.ret false) (.test z34.1.2.2.1 (.test (decide ((0 + z34.2.2.length) ≤ z34.2.2.length)) (.sub (F96 (win z34.2.2 0 z34.2.2.length)) fun z35 =>(.test z35.2 (.ret (z35.1 == z34.1.1)) (.ret false))) .fail) (.ret true)))))))))) .fail)) .fail)))))))))))))))))))))))))))) .fail)) .fail)) .fail)) .fail)) .fail)) .fail)) .fail)) .fail)) .fail)) .fail)) .fail)) .fail)) .fail)) .fail)) .fail)) .fail))))
def L0 (v) := (L0_t v).run
def L0_E : TEnv := (((((((((((((((((((((((((((((((((((E0.add1 zas9 z6l z6k F157).add1 zbdw zalc zalb F59).add1 z3k zqc zqb F102).add1 zasr z44 z43 F104).add1 zbdq zaku zakt F51).add1 zbdr zakw zakv F52).add1 zbdy zalm zall F62).add1 za1b z9k z9j F63).add1 za1f z9v z9u F77).add1 zbd7 zamw zamv F78).add1 zbd0 zalx zalw F66).add1 zbd1 zal2 zal1 F67).add1 zas2 z5z z5y F127).add1 zas3 z54 z52 F128).add1 zass z49 z48 F106).add1 zast z5c z5b F107).add1 zbef zanz zany F96).add1 za1n zaaf zaae F95).add1 zas4 z57 z56 F129).add1 z3l zqz zqy F141).add1 zas7 z6e z6d F143).add1 zl5 zhg zhf F109).add1 zasw z5i z5h F112).add1 zbeg zan1 zan0 F98).add1 zbdn zakl zakk F48).add1 za1o zaai zaah F97).add1 zas8 z6h z6g F144).add1 za1p zaaj zan2 F99).add1 zab2 zxj z5n F117).add1 za1h z9y zanc F83).add1 zasz z5p z5o F118).add1 zbdv zala zak9 F58).add1 zasq z41 z40 F100).add1 zbdp zakr zakq F50).add1 za1i z91 zanf F84)
theorem zf2 : (L0_E).OK := (((((((((((((((((((((((((((((((((((E0ok.add1 za7p).add1 zbgz).add1 z42).add1 za6k).add1 zbgn).add1 zbgq).add1 zbg7).add1 za3p).add1 za3y).add1 zbhv).add1 zbhd).add1 zbhf).add1 za69).add1 za7b).add1 za6m).add1 za6o).add1 zbiq).add1 za4f).add1 za7c).add1 z6c).add1 za7m).add1 zkc).add1 za6v).add1 zbit).add1 zbgh).add1 za4i).add1 za7o).add1 zbiw).add1 za60).add1 zbh4).add1 za61).add1 zbgx).add1 za6h).add1 zbgl).add1 zbh6)
def zdf : Nat → Option zal := fun id => if id = 2000020 then some (LSh.cut zr2 0 (nz [1, 5, 6, 7, 8, 9, 10, 11, 12, 13, 14, 15, 16, 17, 18, 19, 20, 21, 22, 23, 24, 25, 26, 27, 28, 29, 30, 31, 32, 33, 34, 35, 36, 37, 38, 39]) (z1f)) else if id = 2000023 then some (LSh.cut zr3 0 (nz [1, 5, 6, 10, 14, 15, 18, 22, 26, 27, 28, 36, 37]) (z1g)) else if id = 2000030 then some (LSh.cut zr4 0 (nz [1, 5, 6, 10, 18, 22, 26, 27, 28, 36, 37, 40, 41, 42, 43, 44, 45, 322, 323, 324]) (z1i)) else if id = 2000035 then some (LSh.cut zr5 0 (nz [1, 5, 6, 10, 18, 22, 26, 27, 28, 36, 37, 44, 46, 47, 322, 323, 324, 369, 370, 371]) (z1j)) else if id = 33 then some (LSh.told zrz 0 (zd5)) else if id = 43 then some (LSh.told zr1 0 (zd7)) else if id = 39 then some (LSh.told zr0 0 (zd6)) else if id = 26 then some (LSh.told zry 0 (zd4)) else if id = 2000053 then some (LSh.cut zr6 0 (nz [1, 5, 10, 18, 26, 27, 28, 36, 37, 54, 55, 56]) (z1k)) else if id = 1000023 then some (LSh.cut zrv 0 (nz [1, 5, 6, 7, 10, 14, 15, 18, 22, 26, 27, 28, 36, 37]) (z1b)) else if id = 2000058 then some (LSh.cut zr7 0 (nz [1, 5, 10, 18, 26, 27, 36, 37, 58, 59, 60]) (z1m)) else if id = 1000056 then some (LSh.cut zrw 0 (nz [1, 5, 10, 18, 26, 27, 28, 36, 37]) (z1c)) else if id = 2000062 then some (LSh.cut zr8 0 (nz [1, 5, 61, 62]) (z1o)) else if id = 1000061 then some (LSh.cut zrx 0 (nz [1, 5, 36, 37]) (z1d)) else if id = 2000070 then some (LSh.cut zr9 0 (nz [65, 66, 67, 68, 69, 70, 71, 72, 73]) (z1q)) else none
theorem zaoj : zlf Tryz.prog 0 (zaq (zad (zac zaa) []) 22) (LSh.cut zr2 0 (nz [1, 5, 6, 7, 8, 9, 10, 11, 12, 13, 14, 15, 16, 17, 18, 19, 20, 21, 22, 23, 24, 25, 26, 27, 28, 29, 30, 31, 32, 33, 34, 35, 36, 37, 38, 39]) (z1f)) :=
 zio (E := L0_E) (zf2) (told := zdf) (l := zr2) (head := (nz [1, 5, 6, 7, 8, 9, 10, 11, 12, 13, 14, 15, 16, 17, 18, 19, 20, 21, 22, 23, 24, 25, 26, 27, 28, 29, 30, 31, 32, 33, 34, 35, 36, 37, 38, 39])) (F := zko) (za4 (ls := []) (cs := []) (by kernel_rfl) trivial (by kernel_rfl) trivial) (fun v => by kernel_rfl)
theorem z1h : zlf Tryz.prog 0 (zaq (zad (zac zaa) []) 27) (LSh.cut zr3 0 (nz [1, 5, 6, 10, 14, 15, 18, 22, 26, 27, 28, 36, 37]) (z1g)) :=
 zio (E := L0_E) (zf2) (told := zdf) (l := zr3) (head := (nz [1, 5, 6, 10, 14, 15, 18, 22, 26, 27, 28, 36, 37])) (F := zkp) (za4 (ls := []) (cs := []) (by kernel_rfl) trivial (by kernel_rfl) trivial) (fun v => by kernel_rfl)
theorem zaom : zlf Tryz.prog 0 (zaq (zad (zac zaa) [0]) 6) (LSh.cut zr4 0 (nz [1, 5, 6, 10, 18, 22, 26, 27, 28, 36, 37, 40, 41, 42, 43, 44, 45, 322, 323, 324]) (z1i)) :=
 zio (E := L0_E) (zf2) (told := zdf) (l := zr4) (head := (nz [1, 5, 6, 10, 18, 22, 26, 27, 28, 36, 37, 40, 41, 42, 43, 44, 45, 322, 323, 324])) (F := zkq) (za4 (ls := []) (cs := []) (by kernel_rfl) trivial (by kernel_rfl) trivial) (fun v => by kernel_rfl)
theorem zaoo : zlf Tryz.prog 0 (zaq (zad (zac zaa) [0, 0]) 3) (LSh.cut zr5 0 (nz [1, 5, 6, 10, 18, 22, 26, 27, 28, 36, 37, 44, 46, 47, 322, 323, 324, 369, 370, 371]) (z1j)) :=
 zio (E := L0_E) (zf2) (told := zdf) (l := zr5) (head := (nz [1, 5, 6, 10, 18, 22, 26, 27, 28, 36, 37, 44, 46, 47, 322, 323, 324, 369, 370, 371])) (F := zkr) (za4 (ls := []) (cs := []) (by kernel_rfl) trivial (by kernel_rfl) trivial) (fun v => by kernel_rfl)
theorem zaod : zan Tryz.prog 0 (zad (zac zaa) [0, 0]) (LSh.told zrz 0 (zd5)) :=
 zak (E := L0_E) (zf2) (told := zdf) (l := zrz) (step := zd5) (za4 (ls := []) (cs := [zaq (zad (zac zaa) [0, 0]) 0, zaq (zad (zac zaa) [0, 0]) 1, zaq (zad (zac zaa) [0, 0]) 2, zaq (zad (zac zaa) [0, 0]) 3, zaq (zad (zac zaa) [0, 0]) 4]) (by kernel_rfl) trivial (by kernel_rfl) ⟨.inl (by kernel_rfl), ⟨.inl (by kernel_rfl), ⟨.inl (by kernel_rfl), ⟨.inr ⟨_, by kernel_rfl, zaoo⟩, ⟨.inl (by kernel_rfl), trivial⟩⟩⟩⟩⟩) (by kernel_rfl) (fun v => by kernel_rfl)
theorem zaoh : zan Tryz.prog 0 (zad (zac zaa) [0, 1, 0]) (LSh.told zr1 0 (zd7)) :=
 zak (E := L0_E) (zf2) (told := zdf) (l := zr1) (step := zd7) (za4 (ls := []) (cs := [zaq (zad (zac zaa) [0, 1, 0]) 0, zaq (zad (zac zaa) [0, 1, 0]) 1, zaq (zad (zac zaa) [0, 1, 0]) 2]) (by kernel_rfl) trivial (by kernel_rfl) ⟨.inl (by kernel_rfl), ⟨.inl (by kernel_rfl), ⟨.inl (by kernel_rfl), trivial⟩⟩⟩) (by kernel_rfl) (fun v => by kernel_rfl)
theorem zaof : zan Tryz.prog 0 (zad (zac zaa) [0, 1]) (LSh.told zr0 0 (zd6)) :=
 zak (E := L0_E) (zf2) (told := zdf) (l := zr0) (step := zd6) (za4 (ls := [zad (zac zaa) [0, 1, 0]]) (cs := [zaq (zad (zac zaa) [0, 1]) 0, zaq (zad (zac zaa) [0, 1]) 1, zaq (zad (zac zaa) [0, 1]) 2, zaq (zad (zac zaa) [0, 1]) 3, zaq (zad (zac zaa) [0, 1]) 4, zaq (zad (zac zaa) [0, 1]) 5, zaq (zad (zac zaa) [0, 1]) 6]) (by kernel_rfl) ⟨.inr ⟨_, by kernel_rfl, zaoh⟩, trivial⟩ (by kernel_rfl) ⟨.inl (by kernel_rfl), ⟨.inl (by kernel_rfl), ⟨.inl (by kernel_rfl), ⟨.inl (by kernel_rfl), ⟨.inl (by kernel_rfl), ⟨.inl (by kernel_rfl), ⟨.inl (by kernel_rfl), trivial⟩⟩⟩⟩⟩⟩⟩) (by kernel_rfl) (fun v => by kernel_rfl)
theorem z1e : zan Tryz.prog 0 (zad (zac zaa) [0]) (LSh.told zry 0 (zd4)) :=
 zak (E := L0_E) (zf2) (told := zdf) (l := zry) (step := zd4) (za4 (ls := [zad (zac zaa) [0, 0], zad (zac zaa) [0, 1]]) (cs := [zaq (zad (zac zaa) [0]) 0, zaq (zad (zac zaa) [0]) 1, zaq (zad (zac zaa) [0]) 2, zaq (zad (zac zaa) [0]) 3, zaq (zad (zac zaa) [0]) 4, zaq (zad (zac zaa) [0]) 5, zaq (zad (zac zaa) [0]) 6, zaq (zad (zac zaa) [0]) 7, zaq (zad (zac zaa) [0]) 8, zaq (zad (zac zaa) [0]) 9]) (by kernel_rfl) ⟨.inr ⟨_, by kernel_rfl, zaod⟩, ⟨.inr ⟨_, by kernel_rfl, zaof⟩, trivial⟩⟩ (by kernel_rfl) ⟨.inl (by kernel_rfl), ⟨.inl (by kernel_rfl), ⟨.inl (by kernel_rfl), ⟨.inl (by kernel_rfl), ⟨.inl (by kernel_rfl), ⟨.inl (by kernel_rfl), ⟨.inr ⟨_, by kernel_rfl, zaom⟩, ⟨.inl (by kernel_rfl), ⟨.inl (by kernel_rfl), ⟨.inl (by kernel_rfl), trivial⟩⟩⟩⟩⟩⟩⟩⟩⟩⟩) (by kernel_rfl) (fun v => by kernel_rfl)
theorem z1l : zlf Tryz.prog 0 (zaq (zad (zac zaa) []) 32) (LSh.cut zr6 0 (nz [1, 5, 10, 18, 26, 27, 28, 36, 37, 54, 55, 56]) (z1k)) :=
 zio (E := L0_E) (zf2) (told := zdf) (l := zr6) (head := (nz [1, 5, 10, 18, 26, 27, 28, 36, 37, 54, 55, 56])) (F := zks) (za4 (ls := []) (cs := []) (by kernel_rfl) trivial (by kernel_rfl) trivial) (fun v => by kernel_rfl)
theorem zan6 : zlf Tryz.prog 0 (zaq (zad (zac zaa) []) 24) (LSh.cut zrv 0 (nz [1, 5, 6, 7, 10, 14, 15, 18, 22, 26, 27, 28, 36, 37]) (z1b)) :=
 zio (E := L0_E) (zf2) (told := zdf) (l := zrv) (head := (nz [1, 5, 6, 7, 10, 14, 15, 18, 22, 26, 27, 28, 36, 37])) (F := zkl) (za4 (ls := [zad (zac zaa) [0]]) (cs := [zaq (zad (zac zaa) []) 25, zaq (zad (zac zaa) []) 26, zaq (zad (zac zaa) []) 27, zaq (zad (zac zaa) []) 28, zaq (zad (zac zaa) []) 29, zaq (zad (zac zaa) []) 30, zaq (zad (zac zaa) []) 31, zaq (zad (zac zaa) []) 32, zaq (zad (zac zaa) []) 33]) (by kernel_rfl) ⟨.inr ⟨_, by kernel_rfl, z1e⟩, trivial⟩ (by kernel_rfl) ⟨.inl (by kernel_rfl), ⟨.inl (by kernel_rfl), ⟨.inr ⟨_, by kernel_rfl, z1h⟩, ⟨.inl (by kernel_rfl), ⟨.inl (by kernel_rfl), ⟨.inl (by kernel_rfl), ⟨.inl (by kernel_rfl), ⟨.inr ⟨_, by kernel_rfl, z1l⟩, ⟨.inl (by kernel_rfl), trivial⟩⟩⟩⟩⟩⟩⟩⟩⟩) (fun v => by kernel_rfl)
theorem z1n : zlf Tryz.prog 0 (zaq (zad (zac zaa) []) 38) (LSh.cut zr7 0 (nz [1, 5, 10, 18, 26, 27, 36, 37, 58, 59, 60]) (z1m)) :=
 zio (E := L0_E) (zf2) (told := zdf) (l := zr7) (head := (nz [1, 5, 10, 18, 26, 27, 36, 37, 58, 59, 60])) (F := zkt) (za4 (ls := []) (cs := []) (by kernel_rfl) trivial (by kernel_rfl) trivial) (fun v => by kernel_rfl)
theorem zan8 : zlf Tryz.prog 0 (zaq (zad (zac zaa) []) 34) (LSh.cut zrw 0 (nz [1, 5, 10, 18, 26, 27, 28, 36, 37]) (z1c)) :=
 zio (E := L0_E) (zf2) (told := zdf) (l := zrw) (head := (nz [1, 5, 10, 18, 26, 27, 28, 36, 37])) (F := zkm) (za4 (ls := []) (cs := [zaq (zad (zac zaa) []) 35, zaq (zad (zac zaa) []) 36, zaq (zad (zac zaa) []) 37, zaq (zad (zac zaa) []) 38, zaq (zad (zac zaa) []) 39]) (by kernel_rfl) trivial (by kernel_rfl) ⟨.inl (by kernel_rfl), ⟨.inl (by kernel_rfl), ⟨.inl (by kernel_rfl), ⟨.inr ⟨_, by kernel_rfl, z1n⟩, ⟨.inl (by kernel_rfl), trivial⟩⟩⟩⟩⟩) (fun v => by kernel_rfl)
theorem z1p : zlf Tryz.prog 0 (zaq (zad (zac zaa) []) 43) (LSh.cut zr8 0 (nz [1, 5, 61, 62]) (z1o)) :=
 zio (E := L0_E) (zf2) (told := zdf) (l := zr8) (head := (nz [1, 5, 61, 62])) (F := zku) (za4 (ls := []) (cs := []) (by kernel_rfl) trivial (by kernel_rfl) trivial) (fun v => by kernel_rfl)
theorem zaoa : zlf Tryz.prog 0 (zaq (zad (zac zaa) []) 40) (LSh.cut zrx 0 (nz [1, 5, 36, 37]) (z1d)) :=
 zio (E := L0_E) (zf2) (told := zdf) (l := zrx) (head := (nz [1, 5, 36, 37])) (F := zkn) (za4 (ls := []) (cs := [zaq (zad (zac zaa) []) 41, zaq (zad (zac zaa) []) 42, zaq (zad (zac zaa) []) 43, zaq (zad (zac zaa) []) 44]) (by kernel_rfl) trivial (by kernel_rfl) ⟨.inl (by kernel_rfl), ⟨.inl (by kernel_rfl), ⟨.inr ⟨_, by kernel_rfl, z1p⟩, ⟨.inl (by kernel_rfl), trivial⟩⟩⟩⟩) (fun v => by kernel_rfl)
theorem zaot : zlf Tryz.prog 0 (zaq (zad (zac zaa) []) 52) (LSh.cut zr9 0 (nz [65, 66, 67, 68, 69, 70, 71, 72, 73]) (z1q)) :=
 zio (E := L0_E) (zf2) (told := zdf) (l := zr9) (head := (nz [65, 66, 67, 68, 69, 70, 71, 72, 73])) (F := zkv) (za4 (ls := []) (cs := []) (by kernel_rfl) trivial (by kernel_rfl) trivial) (fun v => by kernel_rfl)
theorem zbki : FOK Tryz.prog zgq L0_sh zbiy L0 :=
 zao (E := L0_E) (zf2) (told := zdf) (fl := []) (c := zac zaa) (s := L0_sh) (l := zbiy) (tree := L0_t) zh2 (by kernel_rfl) (by kernel_rfl) (by kernel_rfl) (za4 (ls := [zad (zac zaa) [0]]) (cs := [zaq (zad (zac zaa) []) 0, zaq (zad (zac zaa) []) 1, zaq (zad (zac zaa) []) 2, zaq (zad (zac zaa) []) 3, zaq (zad (zac zaa) []) 4, zaq (zad (zac zaa) []) 5, zaq (zad (zac zaa) []) 6, zaq (zad (zac zaa) []) 7, zaq (zad (zac zaa) []) 8, zaq (zad (zac zaa) []) 9, zaq (zad (zac zaa) []) 10, zaq (zad (zac zaa) []) 11, zaq (zad (zac zaa) []) 12, zaq (zad (zac zaa) []) 13, zaq (zad (zac zaa) []) 14, zaq (zad (zac zaa) []) 15, zaq (zad (zac zaa) []) 16, zaq (zad (zac zaa) []) 17, zaq (zad (zac zaa) []) 18, zaq (zad (zac zaa) []) 19, zaq (zad (zac zaa) []) 20, zaq (zad (zac zaa) []) 21, zaq (zad (zac zaa) []) 22, zaq (zad (zac zaa) []) 23, zaq (zad (zac zaa) []) 24, zaq (zad (zac zaa) []) 25, zaq (zad (zac zaa) []) 26, zaq (zad (zac zaa) []) 27, zaq (zad (zac zaa) []) 28, zaq (zad (zac zaa) []) 29, zaq (zad (zac zaa) []) 30, zaq (zad (zac zaa) []) 31, zaq (zad (zac zaa) []) 32, zaq (zad (zac zaa) []) 33, zaq (zad (zac zaa) []) 34, zaq (zad (zac zaa) []) 35, zaq (zad (zac zaa) []) 36, zaq (zad (zac zaa) []) 37, zaq (zad (zac zaa) []) 38, zaq (zad (zac zaa) []) 39, zaq (zad (zac zaa) []) 40, zaq (zad (zac zaa) []) 41, zaq (zad (zac zaa) []) 42, zaq (zad (zac zaa) []) 43, zaq (zad (zac zaa) []) 44, zaq (zad (zac zaa) []) 45, zaq (zad (zac zaa) []) 46, zaq (zad (zac zaa) []) 47, zaq (zad (zac zaa) []) 48, zaq (zad (zac zaa) []) 49, zaq (zad (zac zaa) []) 50, zaq (zad (zac zaa) []) 51, zaq (zad (zac zaa) []) 52, zaq (zad (zac zaa) []) 53, zaq (zad (zac zaa) []) 54, zaq (zad (zac zaa) []) 55, zaq (zad (zac zaa) []) 56, zaq (zad (zac zaa) []) 57, zaq (zad (zac zaa) []) 58]) (by kernel_rfl) ⟨.inr ⟨_, by kernel_rfl, z1e⟩, trivial⟩ (by kernel_rfl) ⟨.inl (by kernel_rfl), ⟨.inl (by kernel_rfl), ⟨.inl (by kernel_rfl), ⟨.inl (by kernel_rfl), ⟨.inl (by kernel_rfl), ⟨.inl (by kernel_rfl), ⟨.inl (by kernel_rfl), ⟨.inl (by kernel_rfl), ⟨.inl (by kernel_rfl), ⟨.inl (by kernel_rfl), ⟨.inl (by kernel_rfl), ⟨.inl (by kernel_rfl), ⟨.inl (by kernel_rfl), ⟨.inl (by kernel_rfl), ⟨.inl (by kernel_rfl), ⟨.inl (by kernel_rfl), ⟨.inl (by kernel_rfl), ⟨.inl (by kernel_rfl), ⟨.inl (by kernel_rfl), ⟨.inl (by kernel_rfl), ⟨.inl (by kernel_rfl), ⟨.inl (by kernel_rfl), ⟨.inr ⟨_, by kernel_rfl, zaoj⟩, ⟨.inl (by kernel_rfl), ⟨.inr ⟨_, by kernel_rfl, zan6⟩, ⟨.inl (by kernel_rfl), ⟨.inl (by kernel_rfl), ⟨.inr ⟨_, by kernel_rfl, z1h⟩, ⟨.inl (by kernel_rfl), ⟨.inl (by kernel_rfl), ⟨.inl (by kernel_rfl), ⟨.inl (by kernel_rfl), ⟨.inr ⟨_, by kernel_rfl, z1l⟩, ⟨.inl (by kernel_rfl), ⟨.inr ⟨_, by kernel_rfl, zan8⟩, ⟨.inl (by kernel_rfl), ⟨.inl (by kernel_rfl), ⟨.inl (by kernel_rfl), ⟨.inr ⟨_, by kernel_rfl, z1n⟩, ⟨.inl (by kernel_rfl), ⟨.inr ⟨_, by kernel_rfl, zaoa⟩, ⟨.inl (by kernel_rfl), ⟨.inl (by kernel_rfl), ⟨.inr ⟨_, by kernel_rfl, z1p⟩, ⟨.inl (by kernel_rfl), ⟨.inl (by kernel_rfl), ⟨.inl (by kernel_rfl), ⟨.inl (by kernel_rfl), ⟨.inl (by kernel_rfl), ⟨.inl (by kernel_rfl), ⟨.inl (by kernel_rfl), ⟨.inl (by kernel_rfl), ⟨.inr ⟨_, by kernel_rfl, zaot⟩, ⟨.inl (by kernel_rfl), ⟨.inl (by kernel_rfl), ⟨.inl (by kernel_rfl), ⟨.inl (by kernel_rfl), ⟨.inl (by kernel_rfl), ⟨.inl (by kernel_rfl), trivial⟩⟩⟩⟩⟩⟩⟩⟩⟩⟩⟩⟩⟩⟩⟩⟩⟩⟩⟩⟩⟩⟩⟩⟩⟩⟩⟩⟩⟩⟩⟩⟩⟩⟩⟩⟩⟩⟩⟩⟩⟩⟩⟩⟩⟩⟩⟩⟩⟩⟩⟩⟩⟩⟩⟩⟩⟩⟩⟩) (fun v => by kernel_rfl)
theorem T.t0 {X : Type} (x : Nat) (a b : T X) : (T.test (decide ((0 = 0) ∧ (x = x))) a b).run = a.run := by rw [T.run_test, if_pos (by simp)]
theorem T.t1 {X : Type} (a b : T X) : (T.test (decide (True ∧ True)) a b).run = a.run := rfl
theorem T.tw {X : Type} (x : Nat) (a b : T X) : (T.test (decide ((0 + x) ≤ x)) a b).run = a.run := by rw [T.run_test, if_pos (by simp)]
theorem T.tf {X : Type} (a b : T X) : (T.test false a b).run = b.run := rfl
theorem T.tt {X : Type} (a b : T X) : (T.test true a b).run = a.run := rfl
theorem zij {X : Type} [BEq X] [LawfulBEq X] (x : X) : (x != x) = false := by simp
theorem zzp {X : Type} [BEq X] [LawfulBEq X] (x : X) : (! (x == x)) = false := by simp
theorem zaoi (more p : List Int) (all : List (List Int)) (sure : List Int) (cuts : List (Int × Int)) (ok : Bool) (count : Int) (first : List Int) (three : Bool) (at' number : Int) (nine : Bool) (gaps : Int) (eleven : Bool) (text : List UInt8) (five seven : Bool)
  (hp : p.length < 4611686018427387904) (ha : F129 (all, all) = some true) (hf : first.length < 4611686018427387904) (hs : sure.length < 4611686018427387904) (hc : cuts.length < 4611686018427387904)
  (h3 : three = (ok && decide (count > 0))) (h5 : five = three) (h7 : seven = three) (h9 : nine = true → five = true) (h11 : eleven = isPz p) (hok : ok = true → eleven = true) :
  z1f ((more, (), (), ok, (), ok, count, ok, count, ok, first, three, first, three, (), five, (), five, (), seven, (), seven, at', number, nine, at', number, nine, gaps, eleven, gaps, eleven, text, eleven, text, eleven), ((), p, all, all, sure, sure, cuts, cuts)) = some ((more, (), (), ok, count, first, three, (), (), at', number, nine, text, eleven, false), ((), p, all, sure, cuts)) := by
 subst h7
 subst h5
 rw [z1f, zko]
 have k1 := ziq first first hf
 have k2 := ziq sure sure hs
 have k3 := zapo cuts cuts hc
 have k4 := zkb p hp
 have k5 := za6u p hp
 rw [← h11] at k4 k5
 rw [qd rfl] at k1 k2 k3
 cases ok with
 | false =>
  have h3' : five = false := by rw [h3]; rfl
  subst h3'
  cases nine with
  | true => exact absurd (h9 rfl) (by simp)
  | false =>
   simp only [↓T.t0, T.t1, ↓T.tw, ↓T.tf, ↓T.tt, ↓zzp, ↓zij, ↓T.run_sub, ↓T.run_ret, ↓zap, ha, k1, k2, k3, k4, k5, qa, Bool.not_true, Bool.not_false]
 | true =>
  have he := hok rfl
  subst he
  rw [Bool.true_and] at h3
  cases nine with
  | true =>
   have h5 := h9 rfl
   subst h5
   simp only [↓T.t0, T.t1, ↓T.tw, ↓T.tf, ↓T.tt, ↓zzp, ↓zij, ↓T.run_sub, ↓T.run_ret, ↓zap, ha, k1, k2, k3, k4, k5, qa, Bool.not_true, Bool.not_false, ← h3]
  | false =>
   simp only [↓T.t0, T.t1, ↓T.tw, ↓T.tf, ↓T.tt, ↓zzp, ↓zij, ↓T.run_sub, ↓T.run_ret, ↓zap, ha, k1, k2, k3, k4, k5, qa, Bool.not_true, Bool.not_false, ← h3]
theorem zmd {A B : Type} {step : A → Option (A ⊕ B)} (emb : Nat → A) (r : B) (n : Nat) (hend : step (emb n) = some (.inr r)) (hstep : ∀ j, j < n → step (emb j) = some (.inl (emb (j + 1)))) :
  ∀ (m k : Nat), k + m = n → zav step (emb k) = some r
 | 0, k, hm => by rw [show k = n by omega]; exact zag hend
 | m + 1, k, hm => by rw [zah (hstep k (by omega)), zmd emb r n hend hstep m (k + 1) (by omega)]
theorem zaok (more p : List Int) (all : List (List Int)) (sure : List Int) (cuts : List (Int × Int)) (count : Int) (first : List Int) (three : Bool) (at' number : Int) (nine : Bool) (text : List UInt8) (thirteen : Bool)
  (hf : first.length < 4611686018427387904) (hc : (all.length : Int) = count) (h3 : three = true → all[0]? = some first) :
  z1g ((more, (), (), count, first, three, (), (), at', number, nine, text, thirteen), ((), p, all, sure, cuts)) = some ((more, (), (), count, (), (), at', number, nine, text, thirteen, false), ((), p, all, sure, cuts)) := by
 subst hc
 rw [z1g, zkp, zij, T.tf]
 have k1 := ziq first first hf
 rw [qd rfl] at k1
 cases three with
 | false => simp only [↓T.t0, T.t1, ↓T.tf, ↓T.run_ret]
 | true =>
  have h := h3 rfl
  have hl : 0 < all.length := by
   rcases Nat.eq_zero_or_pos all.length with h0 | h0
   ·rw [List.getElem?_eq_none (by omega)] at h; cases h
   ·exact h0
  rw [T.tt, T.run_test, if_pos (qd (by omega)), T.run_sub, h, qa, T.run_sub, k1, qa]
  simp only [↓T.t0, T.t1, ↓T.run_ret, Bool.not_true]
theorem zaon (more p : List Int) (all : List (List Int)) (sure : List Int) (cuts ds : List (Int × Int)) (count at' number : Int) (nine : Bool) (text : List UInt8) (thirteen : Bool) (k : Nat) (x t323 t324 : Int) (q : List Int) (t370 t371 pv sv : Int)
  (gp : p[k]? = some pv) (gs : sure[k]? = some sv) (hpv : pv = 0 ∨ pv = x) (hsv : sv = 0 ∨ sv = x) (hp : k < p.length) (hs : k < sure.length) :
  z1j ((more, (), (), count, (), (), at', number, nine, text, thirteen, (), (k : Int), x, (), t323, t324, q, t370, t371), ((), p, all, sure, cuts, ds)) = some ((more, (), (), count, (), (), at', number, nine, text, thirteen, (), (), t323, t324, q, t370, t371, false), ((), p, all, sure, cuts, ds)) := by
 rw [z1j, zkr, T.run_test, if_pos (qd (by omega)), T.run_sub, Nat.zero_add, qe, gp, qa, gs, T.run_test]
 by_cases e : pv = 0
 ·rw [if_neg (by simp [e]), T.run_test, if_pos (qd (by omega)), T.run_sub, qa, T.run_test]
  by_cases e2 : sv = 0
  ·rw [if_neg (by simp [e2])]; simp only [↓T.t0, T.t1, ↓T.run_ret]
  ·rw [if_pos (by simpa using e2), T.run_test, if_pos (qd (by omega)), T.run_sub, qa]
   simp only [↓T.t0, T.t1, ↓T.run_ret]
   rw [hsv.resolve_left e2, zij]
 ·rw [if_pos (by simpa using e), T.run_test, if_pos (qd (by omega)), T.run_sub, qa, T.run_test, if_neg (by rw [hpv.resolve_left e, zij]; simp), T.run_test, if_pos (qd (by omega)), T.run_sub, qa, T.run_test]
  by_cases e2 : sv = 0
  ·rw [if_neg (by simp [e2])]; simp only [↓T.t0, T.t1, ↓T.run_ret]
  ·rw [if_pos (by simpa using e2), T.run_test, if_pos (qd (by omega)), T.run_sub, qa]
   simp only [↓T.t0, T.t1, ↓T.run_ret]
   rw [hsv.resolve_left e2, zij]
theorem zaoc (more p : List Int) (all : List (List Int)) (sure : List Int) (cuts ds : List (Int × Int)) (count at' number : Int) (nine : Bool) (text : List UInt8) (thirteen : Bool) (t323 t324 : Int) (q : List Int)
  (hp : p.length = q.length) (hs : sure.length = q.length) (hq : q.length ≤ 9) (h1 : ∀ j, p.getD j 0 = 0 ∨ p.getD j 0 = q.getD j 0) (h2 : ∀ j, sure.getD j 0 = 0 ∨ sure.getD j 0 = q.getD j 0) :
  za4m ((more, (), (), count, (), (), at', number, nine, text, thirteen, (), (), t323, t324, q, (q.length : Int), (0 : Int)), ((), p, all, sure, cuts, ds)) = some (.inr ((more, (), (), count, (), (), at', number, nine, text, thirteen, (), (), t323, t324), ((), p, all, sure, cuts, ds))) := by
 refine zmd (step := fun v => (zd5 v).run) (fun j => ((more, (), (), count, (), (), at', number, nine, text, thirteen, (), (), t323, t324, q, (q.length : Int), (j : Int)), ((), p, all, sure, cuts, ds))) _ q.length ?_ ?_ q.length 0 (by omega)
 ·rw [zd5, T.run_test, if_neg (by simp)]
  simp only [↓T.t0, T.t1, ↓T.run_ret]
 ·intro j hj
  have w1 : w64 ((j : Int) + 1) = ((j + 1 : Nat) : Int) := by rw [zae (by omega) (by omega)]; omega
  have gq : q[j]? = some (q.getD j 0) := by rw [qg, qb hj]; rfl
  have gp : p[j]? = some (p.getD j 0) := by rw [qg, qb (by omega)]; rfl
  have gs : sure[j]? = some (sure.getD j 0) := by rw [qg, qb (by omega)]; rfl
  have k1 := zaon more p all sure cuts ds count at' number nine text thirteen j (q.getD j 0) t323 t324 q (q.length : Int) (j : Int) _ _ gp gs (h1 j) (h2 j) (by omega) (by omega)
  rw [zd5, T.run_test, if_pos (qd (by omega)), T.run_test, if_pos (qd (by omega)), T.run_sub, qe, gq, qa]
  simp only [↓T.t0, T.t1, ↓T.run_sub, k1, qa, ↓T.tf, ↓T.run_ret, w1]
theorem zaog (more p : List Int) (all : List (List Int)) (sure : List Int) (cuts ds : List (Int × Int)) (count at' number : Int) (nine : Bool) (text : List UInt8) (thirteen : Bool) (t323 t324 t408 t409 d0 d1 : Int) (hd : (d0, d1) ∈ ds) (hl : ds.length ≤ 9) :
  za4o ((more, (), (), count, (), (), at', number, nine, text, thirteen, (), (), false, (), t323, t324, (), t408, t409, (), (ds.length : Int), (0 : Int)), ((), p, all, sure, cuts, ds, (d0, d1))) = some ((more, (), (), count, (), (), at', number, nine, text, thirteen, (), true, (), t323, t324, (), t408, t409), ((), p, all, sure, cuts, ds)) := by
 refine zmd (step := fun v => (zd7 v).run) (fun j => ((more, (), (), count, (), (), at', number, nine, text, thirteen, (), (), (ds.take j).any (fun z => (z.1 == d0) && ((z.2 == d1) && true)), (), t323, t324, (), t408, t409, (), (ds.length : Int), (j : Int)), ((), p, all, sure, cuts, ds, (d0, d1)))) _ ds.length ?_ ?_ ds.length 0 (by omega)
 ·rw [zd7, T.run_test, if_neg (by simp)]
  simp only [↓T.t0, T.t1, ↓T.run_ret]
  have : (ds.take ds.length).any (fun z => (z.1 == d0) && ((z.2 == d1) && true)) = true := by
   rw [List.take_length, List.any_eq_true]
   exact ⟨_, hd, by simp⟩
  rw [this]
 ·intro j hj
  have w1 : w64 ((j : Int) + 1) = ((j + 1 : Nat) : Int) := by rw [zae (by omega) (by omega)]; omega
  have gd : ds[j]? = some ds[j] := qb hj
  have e1 : (ds.take (j + 1)).any (fun z => (z.1 == d0) && ((z.2 == d1) && true)) = ((ds.take j).any (fun z => (z.1 == d0) && ((z.2 == d1) && true)) || ((ds[j].1 == d0) && ((ds[j].2 == d1) && true))) := by
   rw [List.take_add_one, gd, List.any_append]
   simp
  rw [e1, zd7, T.run_test, if_pos (qd (by omega)), T.run_test, if_pos (qd (by omega)), T.run_sub, qe, Nat.zero_add, gd, qa]
  cases (ds.take j).any (fun z => (z.1 == d0) && ((z.2 == d1) && true)) with
  | true => simp only [↓T.t0, T.t1, ↓T.tt, ↓T.run_ret, w1, Bool.true_or]
  | false => simp only [↓T.t0, T.t1, ↓T.tf, ↓T.run_ret, w1, Bool.false_or]
theorem zaoe (more p : List Int) (all : List (List Int)) (sure : List Int) (cuts ds : List (Int × Int)) (count at' number : Int) (nine : Bool) (text : List UInt8) (thirteen : Bool) (t323 t324 : Int) (hd : ∀ d ∈ cuts, d ∈ ds) (hl : ds.length ≤ 9) (hc : cuts.length < 1000000) :
  za4n ((more, (), (), count, (), (), at', number, nine, text, thirteen, (), (), t323, t324, (), (cuts.length : Int), (0 : Int)), ((), p, all, sure, cuts, ds)) = some (.inr ((more, (), (), count, (), (), at', number, nine, text, thirteen, (), t323, t324), ((), p, all, sure, cuts))) := by
 refine zmd (step := fun v => (zd6 v).run) (fun j => ((more, (), (), count, (), (), at', number, nine, text, thirteen, (), (), t323, t324, (), (cuts.length : Int), (j : Int)), ((), p, all, sure, cuts, ds))) _ cuts.length ?_ ?_ cuts.length 0 (by omega)
 ·rw [zd6, T.run_test, if_neg (by simp)]
  simp only [↓T.t0, T.t1, ↓T.run_ret]
 ·intro j hj
  have w1 : w64 ((j : Int) + 1) = ((j + 1 : Nat) : Int) := by rw [zae (by omega) (by omega)]; omega
  obtain ⟨d0, d1, gd, hm⟩ : ∃ d0 d1, cuts[j]? = some (d0, d1) ∧ (d0, d1) ∈ ds := ⟨cuts[j].1, cuts[j].2, qb hj, hd _ (List.getElem_mem hj)⟩
  have k1 := zaog more p all sure cuts ds count at' number nine text thirteen t323 t324 (cuts.length : Int) (j : Int) d0 d1 hm hl
  rw [zd6, T.run_test, if_pos (qd (by omega)), T.run_test, if_pos (qd (by omega)), T.run_sub, qe, Nat.zero_add, gd, qa]
  simp only [↓T.t0, T.t1, ↓T.run_sub, k1, qa, Bool.not_true, ↓T.tf, ↓T.run_ret, w1]
theorem zaol (more p : List Int) (all : List (List Int)) (sure : List Int) (cuts ds : List (Int × Int)) (count at' number : Int) (nine : Bool) (text : List UInt8) (thirteen : Bool) (k : Nat) (q : List Int) (t323 t324 : Int)
  (hq : (trOf q).isSome = true) (hl : q.length ≤ 9) (hk : k < all.length) (hn : all.length < 1000000) (h0 : 0 < k → ∃ r, all[k - 1]? = some r ∧ r.length ≤ 9 ∧ ltL r q = true) :
  z1i ((more, (), (), count, (), (), at', number, nine, text, thirteen, (k : Int), q, true, true, (), true, (), t323, t324), ((), p, all, sure, cuts, ds)) = some ((more, (), (), count, (), (), at', number, nine, text, thirteen, q, (), (), t323, t324, false), ((), p, all, sure, cuts, ds)) := by
 rw [z1i, zkq, Bool.not_true, T.tf, T.tf, T.run_sub, za4h q (by omega), hq, qa, Bool.not_true, T.tf, T.run_test]
 by_cases e : 0 < k
 ·obtain ⟨r, h1, h2, h3⟩ := h0 e
  have w1 : w64 ((k : Int) - 1) = ((k - 1 : Nat) : Int) := by rw [zae (by omega) (by omega)]; omega
  rw [if_pos (qd (by omega)), w1, T.run_test, if_pos (qd (by omega)), T.run_sub, qe, Nat.zero_add, h1, qa, T.run_sub, za7n r q (by omega), h3, qa]
  simp only [↓T.t0, T.t1, Bool.not_true, ↓T.tf, ↓T.run_ret]
 ·rw [if_neg (by rw [kf]; omega)]
  simp only [↓T.t0, T.t1, ↓T.run_ret]
theorem zaob (more p : List Int) (all : List (List Int)) (sure : List Int) (cuts : List (Int × Int)) (count at' number : Int) (nine : Bool) (text : List UInt8) (thirteen : Bool)
  (hp : isPz p = true) (hall : ∀ q ∈ all, (trOf q).isSome = true ∧ fits p q = true ∧ q.length = p.length) (hup : all.Pairwise fun a b => ltL a b = true)
  (hsure : ∀ q ∈ all, sure.length = q.length ∧ ∀ j, sure.getD j 0 = 0 ∨ sure.getD j 0 = q.getD j 0) (hcuts : ∀ q ∈ all, ∀ d ∈ cuts, d ∈ dOf q) (hn : all.length ≤ 300) (hc : cuts.length < 1000000) :
  za4l ((more, (), (), count, (), (), at', number, nine, text, thirteen, (), (all.length : Int), (0 : Int)), ((), p, all, sure, cuts)) = some (.inr ((more, (), count, (), at', number, nine, text, thirteen), ((), p, sure))) := by
 have h9 := (zdk hp).2
 refine zmd (step := fun v => (zd4 v).run) (fun j => ((more, (), (), count, (), (), at', number, nine, text, thirteen, (), (all.length : Int), (j : Int)), ((), p, all, sure, cuts))) _ all.length ?_ ?_ all.length 0 (by omega)
 ·rw [zd4, T.run_test, if_neg (by simp)]
  simp only [↓T.t0, T.t1, ↓T.run_ret]
 ·intro j hj
  have w1 : w64 ((j : Int) + 1) = ((j + 1 : Nat) : Int) := by rw [zae (by omega) (by omega)]; omega
  have gq : all[j]? = some all[j] := qb hj
  have hm : all[j] ∈ all := List.getElem_mem hj
  have hpw : 0 < j → ∃ r, all[j - 1]? = some r ∧ r.length ≤ 9 ∧ ltL r all[j] = true := by
   intro h0
   have hj1 : j - 1 < all.length := by omega
   refine ⟨all[j - 1], qb hj1, ?_, List.pairwise_iff_getElem.1 hup (j - 1) j hj1 hj (by omega)⟩
   rw [(hall _ (List.getElem_mem hj1)).2.2]; exact h9
  generalize all[j] = q at gq hm hpw
  obtain ⟨h1, h2, h3⟩ := hall q hm
  obtain ⟨s1, s2⟩ := hsure q hm
  have hd := hcuts q hm
  obtain ⟨ds, hds⟩ := Option.isSome_iff_exists.1 h1
  have hdo : dOf q = ds := by unfold dOf; rw [hds]; rfl
  have hdl := znt q
  rw [hdo] at hd hdl
  have k0 : F98 (p, q) = some (true, true) := by
   rw [za4j p q (by omega) (by omega), hp, h1, h2]; rfl
  have k1 : F48 q = some (((), true), ds) := by
   rw [zbgg q (by omega), hds]
  have k2 := zaol more p all sure cuts ds count at' number nine text thirteen j q (all.length : Int) (j : Int) h1 (by omega) hj (by omega) hpw
  have k3 := zaoc more p all sure cuts ds count at' number nine text thirteen (all.length : Int) (j : Int) q h3.symm s1 (by omega) ((zjh p q).1 h2).2 s2
  have k4 := zaoe more p all sure cuts ds count at' number nine text thirteen (all.length : Int) (j : Int) hd hdl hc
  rw [zd4, T.run_test, if_pos (qd (by omega)), T.run_test, if_pos (qd (by omega)), T.run_sub, qe, Nat.zero_add, gq, qa]
  simp only [↓T.t0, T.t1, ↓T.tw, ↓T.run_sub, ↓zap, k0, k1, k2, k3, k4, qa, ↓T.tf, ↓T.run_ret, w1, Sum.isLeft_inr, Sum.getRight?_inr]
theorem zaop (more p sure : List Int) (count at' number : Int) (nine : Bool) (text : List UInt8) (thirteen : Bool) :
  z1k ((more, (), count, (), at', number, nine, text, thirteen, true, count, true), ((), p, sure)) = some ((more, (), count, (), at', number, nine, text, thirteen, false), ((), p, sure)) := by
 rw [z1k, zks]
 simp only [↓T.t0, T.t1, Bool.not_true, ↓T.tf, ↓T.run_ret, zij]
theorem zabo (p : List Int) : (fsR p).2 = ((solR p).1 && decide (((solR p).2.length : Int) > 0)) ∧ (surR p).1 = (fsR p).2 ∧ (sdR p).1 = (fsR p).2 ∧ ((fsR p).2 = true → (solR p).2[0]? = some (fsR p).1) := by
 unfold fsR surR sdR
 generalize solR p = r
 obtain ⟨ok, l⟩ := r
 cases ok <;> cases l <;> simp <;> omega
theorem zacl (p : List Int) : (sdR p).2.length ≤ 9 := by
 unfold sdR
 generalize solR p = r
 obtain ⟨ok, l⟩ := r
 cases ok with
 | false => cases l <;> simp
 | true =>
  cases l with
  | nil => simp
  | cons q t =>
   have : ∀ (t : List (List Int)) (o : List Dg), (t.foldl (fun out r => out.filter (hasD (dOf r))) o).length ≤ o.length := by
    intro t
    induction t with
    | nil => intro o; exact qi _
    | cons a t ih => intro o; exact Nat.le_trans (ih _) (List.length_filter_le _ _)
   exact Nat.le_trans (this t (dOf q)) (znt q)
theorem zan5 (more p : List Int) (at' number : Int) (nine : Bool) (text : List UInt8) (thirteen : Bool) :
  z1b ((more, (), (), (solR p).1, ((solR p).2.length : Int), (fsR p).1, (fsR p).2, (), (), at', number, nine, text, thirteen), ((), p, (solR p).2, (surR p).2, (sdR p).2)) = some (.inr ((more, (), ((solR p).2.length : Int), (), at', number, nine, text, thirteen), ((), p, (surR p).2))) := by
 rw [z1b, zkl]
 cases hok : (solR p).1 with
 | false => simp only [↓T.t0, T.t1, ↓T.tf, ↓T.run_ret]
 | true =>
  obtain ⟨s1, s2, s3⟩ := zz4 hok
  obtain ⟨f1, f2, f3, f4⟩ := zabo p
  obtain ⟨t1, t2, t3⟩ := zafs hok
  have hl := zdk s1
  have hfl := z7g p
  have hr := zgb p
  have k1 := zaok more p (solR p).2 (surR p).2 (sdR p).2 ((solR p).2.length : Int) (fsR p).1 (fsR p).2 at' number nine text thirteen (by omega) rfl f4
  have k2 := zaob more p (solR p).2 (surR p).2 (sdR p).2 ((solR p).2.length : Int) at' number nine text thirteen s1
   (by rw [s2]; exact fun q hq => zact s1 hq) (by rw [s2]; exact zbjy s1)
   (fun q hq => by
    have hs : (surR p).1 = true := by
     rw [f2, f1, hok, Bool.true_and, kf]
     have := List.length_pos_of_mem hq
     omega
    have hq9 := zfl hq
    refine ⟨by rw [zfi hs, hq9.1], fun j => ?_⟩
    by_cases h0 : (surR p).2.getD j 0 = 0
    ·exact .inl h0
    ·right
     by_cases hj : j < p.length
     ·exact zacx hs hj h0 q hq
     ·exact absurd (by rw [qg, List.getElem?_eq_none (by rw [zfi hs]; omega)]; rfl) h0)
   (fun q hq d hd => zbjw d hd q hq) (by rw [s2]; exact s3) (by have := zacl p; omega)
  have k3 := zbiv p 1 (by omega)
  have k4 := zaks (rot1 p) (by omega)
  rw [t1] at k3
  rw [t2, t3] at k4
  have k5 := zaop more p (surR p).2 ((solR p).2.length : Int) at' number nine text thirteen
  simp only [↓T.t0, T.t1, ↓T.tw, ↓T.run_sub, ↓zap, k1, k2, k3, k4, k5, qa, ↓T.tf, ↓T.tt, ↓T.run_ret, Sum.isLeft_inr, Sum.getRight?_inr]
theorem zaoq (more p sure : List Int) (count number : Int) (j : Nat) (text : List UInt8) (thirteen : Bool) (g1 : p[j]? = some 0) (g2 : sure[j]? = some number) (h1 : j < p.length) (h2 : j < sure.length) :
  z1m ((more, (), count, (), (j : Int), number, text, thirteen, true, count, true), ((), p, sure)) = some ((more, (), text, thirteen, false), ((), p)) := by
 rw [z1m, zkt, T.run_test, if_pos (qd (by omega)), T.run_sub, Nat.zero_add, qe, g1, qa, zij, T.tf, T.run_test, if_pos (qd (by omega)), T.run_sub, g2, qa, zij, T.tf]
 simp only [↓T.t0, T.t1, Bool.not_true, ↓T.tf, ↓T.run_ret, zij]
theorem zan7 (more p : List Int) (at' number : Int) (nine : Bool) (text : List UInt8) (thirteen : Bool) (h9 : p.length ≤ 9) (hh : z2w p = (at', number, nine)) :
  z1c ((more, (), ((solR p).2.length : Int), (), at', number, nine, text, thirteen), ((), p, (surR p).2)) = some (.inr ((more, (), text, thirteen), ((), p))) := by
 rw [z1c, zkm]
 cases nine with
 | false => simp only [↓T.t0, T.t1, ↓T.tf, ↓T.run_ret]
 | true =>
  obtain ⟨j, rfl, hj, hs, g1, g2, h1, h2, h3⟩ := z2x hh
  have hl := zfi hs
  have g1' : p[j]? = some 0 := by
   rw [qg, qb hj] at g1
   rw [qb hj]; exact congrArg some g1
  have hj2 : j < (surR p).2.length := by omega
  have g2' : (surR p).2[j]? = some number := by
   rw [qg, qb hj2] at g2
   rw [qb hj2]; exact congrArg some g2
  have k1 := za6z p (j : Int) number (by omega)
  have k2 := zaks (p.set j number) (by rw [qy]; omega)
  rw [h1] at k1
  rw [h2, h3] at k2
  have k3 := zaoq more p (surR p).2 ((solR p).2.length : Int) number j text thirteen g1' g2' hj hj2
  simp only [↓T.t0, T.t1, ↓T.tw, ↓T.run_sub, ↓zap, k1, k2, k3, qa, ↓T.tf, ↓T.tt, ↓T.run_ret]
theorem zaor (more p : List Int) (h9 : p.length ≤ 9) : z1o ((more, (), (), true), ((), p, (), p)) = some (more, false) := by
 have k := z8g p p (by omega)
 rw [qd rfl] at k
 rw [z1o, zku]
 simp only [↓T.t0, T.t1, ↓T.tw, ↓T.run_sub, ↓zap, k, qa, Bool.not_true, ↓T.tf, ↓T.run_ret]
theorem zan9 (more p : List Int) (h9 : p.length ≤ 9) : z1d ((more, (), if isPz p then pzT p else [], isPz p), ((), p)) = some (.inr more) := by
 rw [z1d, zkn]
 cases h : isPz p with
 | false => rfl
 | true =>
  have k1 := za33 (pzT p)
  rw [zatw h] at k1
  have k2 := zaor more p h9
  simp only [↓T.t0, T.t1, ↓T.tw, ↓T.run_sub, if_true, k1, k2, qa, ↓T.tf, ↓T.tt, ↓T.run_ret]
theorem zaos (is fifteen : Bool) (s : List UInt8) (seventeen : Bool) (r : List Int) (h : r.length ≤ 9) : z1q ((is, fifteen, is, fifteen, s, (), seventeen, (), seventeen), ((), r, (), r)) = some ((s, (), seventeen, false), ((), r)) := by
 have k := z8g r r (by omega)
 rw [qd rfl] at k
 rw [z1q, zkv]
 simp only [↓T.t0, T.t1, ↓T.tw, ↓T.run_sub, ↓zap, k, qa, ↓zzp, Bool.not_true, ↓T.tf, ↓T.run_ret]
theorem zaut : ∀ n : Nat, n < 256 → (match zh0 (UInt8.ofNat n) with | some z => (if z = 0 then 46 else UInt8.ofNat (48 + z.toNat)) == UInt8.ofNat n | none => true) = true := by decide +kernel
theorem zw3 : ∀ (s : List UInt8) (r : List Int), zf5 s = some r → pzT r = s
 | [], r, h => by cases h; rfl
 | b :: t, r, h => by
  rw [zf5] at h
  have hc := zaut b.toNat b.toNat_lt
  rw [UInt8.ofNat_toNat] at hc
  cases hz : zh0 b with
  | none => rw [hz] at h; cases h
  | some z =>
   rw [hz] at h hc
   simp only [beq_iff_eq] at hc
   cases ht : zf5 t with
   | none => rw [ht] at h; cases h
   | some r' =>
    rw [ht] at h
    cases h
    have ih := zw3 t r' ht
    unfold pzT at ih ⊢
    rw [qu, ih, hc]
theorem zauu {s : List UInt8} (h : (zh3 s).1 = true) : isPz (zh3 s).2 = true ∧ pzT (zh3 s).2 = s := by
 unfold zh3 at h ⊢
 split at h
 ·cases h
 ·rename_i hl
  rw [if_neg hl]
  cases hr : zf5 s with
  | none => rw [hr] at h; cases h
  | some r =>
   rw [hr] at h
   simp only at h ⊢
   split at h
   ·rename_i hp
    rw [if_pos hp]
    exact ⟨hp, zw3 s r hr⟩
   ·cases h
theorem zbb7 (v : List Int × List Int) (hs : zw1 ASh.small [.one (.sl (.int .u8) false true), .one (.sl (.int .u8) false true)] v) : L0 v = some true := by
 obtain ⟨code, more⟩ := v
 have hb : ∀ l : List Int, (∀ x ∈ l, wfE (.int .u8) x) → zkx l := fun l h x hx => by
  have := h x hx
  simp [wfE, Lit.wf, IntKind.min, IntKind.max, IntKind.signed, IntKind.bits] at this
  omega
 have b1 : zkx code := hb code hs.1.2
 have b2 : zkx more := hb more hs.2.2
 obtain ⟨b, hbig⟩ : ∃ b, F157 (code, more) = some b := by
  rw [F157, zaja, T.run_test]
  split
  ·exact ⟨_, rfl⟩
  ·exact ⟨_, rfl⟩
 obtain ⟨p, e1, hp9⟩ := zawr b1
 have hp : p.length < 4611686018427387904 := by omega
 obtain ⟨f1, f2, f3, f4⟩ := zabo p
 have i1 := zqa p hp
 have s1 := za6j p hp
 have i2 := zaks p hp
 have s2 := zbgp p hp
 have i3 : F62 p = some ((fsR p).1, (fsR p).2) := zbg6 p hp
 have s3 : F63 p = some ((fsR p).1, (fsR p).2) := za3o p hp
 have i4 := za3x p hp
 have s4 := zbhu p hp
 have i5 := zbhc p hp
 have s5 := zbhe p hp
 have i6 := za68 p hp
 have s6 := za7a p hp
 have i7 := za6l p hp
 have s7 := za6n p hp
 have hx : (if isPz p then (pzT p, true) else ([], false)) = ((if isPz p then pzT p else []), isPz p) := by cases isPz p <;> rfl
 have i8 := za4g p hp
 have s8 := za4e p hp
 rw [hx] at i8 s8
 obtain ⟨at', number, nine, hh⟩ : ∃ a n f, z2w p = (a, n, f) := ⟨_, _, _, rfl⟩
 rw [hh] at i6 s6
 have hll : F129 ((solR p).2, (solR p).2) = some true := zaib _ (by have := zmi p; omega) fun r hr => by have := (zfl hr); omega
 have r20 := zaoi more p (solR p).2 (surR p).2 (sdR p).2 (solR p).1 ((solR p).2.length : Int) (fsR p).1 (fsR p).2 at' number nine (if isPz p then gaps p else 0) (isPz p) (if isPz p then pzT p else []) (surR p).1 (sdR p).1
  hp hll (by have := z7g p; omega) (by have := zacv p; omega) (by have := zacl p; omega) f1 f2 f3
  (fun h => by subst h; obtain ⟨_, _, _, h, _⟩ := z2x hh; exact h) rfl (fun h => (zz4 h).1)
 have c23 := zan5 more p at' number nine (if isPz p then pzT p else []) (isPz p)
 have c56 := zan7 more p at' number nine (if isPz p then pzT p else []) (isPz p) hp9 hh
 have c61 := zan9 more p hp9
 obtain ⟨q, r, e2, hr9, hq⟩ := zawp b2
 have j1 := za4j r q (by omega) (by omega)
 have j2 := za6g r q (by omega) (by omega)
 obtain ⟨s, e3⟩ := zawi b2
 have j3 := za33 s
 have j4 := zbh5 s
 have hz := zatv s
 generalize (if isPz r && (trOf q).isSome then (fits r q, true) else (false, false)) = F at j1 j2
 obtain ⟨is, fifteen⟩ := F
 have r70 := zaos is fifteen s (zh3 s).1 (zh3 s).2 hz
 have j5 := za4g (zh3 s).2 (by omega)
 rw [L0, L0_t, T.run_sub, hbig, qa]
 cases b with
 | true => rfl
 | false =>
  rw [T.tf, T.run_sub, e1, qa]
  dsimp only
  simp only [↓T.t0, T.t1, ↓T.tw, ↓T.run_sub, ↓zap, i1, s1, i2, s2, i3, s3, i4, s4, i5, s5, i6, s6, i7, s7, i8, s8, r20, c23, c56, c61, e2, j1, j2, e3, j3, j4, r70, qa, ↓T.tf, ↓T.tt, Sum.isLeft_inr, Sum.getRight?_inr]
  cases h : (zh3 s).1 with
  | false => rfl
  | true =>
   obtain ⟨h1, h2⟩ := zauu h
   rw [h1, if_pos rfl, h2] at j5
   simp only [↓T.t0, T.t1, ↓T.tw, ↓T.run_sub, ↓zap, j5, qa, ↓T.tf, ↓T.tt, ↓T.run_ret, beq_self_eq_true]
end Go.Proofs.W
