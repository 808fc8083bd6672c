/- Functions of the program, walked, and what they compute. -/
import Derived.Test.YtcpjedchcfpbdaaLcWk1
set_option linter.unusedVariables false
set_option linter.unusedSimpArgs false
set_option maxRecDepth 100000
set_option maxHeartbeats 4000000
namespace Go.Proofs.W
open Go Go.Gm Go.Proofs
open Go.RowKit Go.Shelf
def s_l1Cur_quiddity_sh : FSh := ⟨[(.one (.pf 0 0 0)), (.one (.si .i64))], [(.rcd 0 [(.sl (.int .u8) false true), (.si .i64), (.si .u64)])]⟩

def s_l1Cur_quiddity_fo : List FO := [⟨[(.one (.sl (.int .i64) false true))], [(.rcd 0 [(.sl (.int .u8) false true), (.si .i64), (.si .u64)])]⟩]
noncomputable def s_l1Cur_quiddity_t : ((Unit × Int) × (List (Int) × Int × Int)) → T (List (Int) × (List (Int) × Int × Int)) := fun (((), most), (c_0, c_1, c_2)) =>
  (.sub (s_l1Cur_pick (((), (w64 (most - 2))), (c_0, (c_1, c_2)))) fun z0 =>
  (.sub (s_l1Cur_sureQuiddity (((), (w64 (3 + z0.1))), (z0.2.1, (z0.2.2.1, z0.2.2.2)))) fun z1 =>
  (.sub (s_l1Cur_pick (((), (14 : Int)), (z1.2.1.1, (z1.2.1.2.1, z1.2.1.2.2)))) fun z2 =>
  (.test (z2.1 == 0)
  (.sub (s_l1Cur_pick (((), ((List.length z1.2.2) : Int)), (z2.2.1, (z2.2.2.1, z2.2.2.2)))) fun z3 =>
   (.test true
   (.sub (s_l1Cur_among (((), (win (List.set (List.set (List.set (List.set (List.set (List.set (List.replicate 6 (0 : Int)) 0 (-1)) 1 (0 : Int)) 2 (1 : Int)) 3 (2 : Int)) 4 (13 : Int)) 5 (4611686018427387904 : Int)) 0 6)), (z3.2.1, (z3.2.2.1, z3.2.2.2)))) fun z4 =>
    (.test (decide ((0 ≤ z3.1) ∧ (z3.1 < ((List.length z1.2.2) : Int))))
    (.sub (z1.2.2[(0 + (Int.toNat z3.1))]?) fun z5 =>
     (.test (decide ((0 + (List.length z1.2.2)) ≤ (List.length (List.set z1.2.2 (0 + (Int.toNat z3.1)) z4.1))))
     (.ret ((win (List.set z1.2.2 (0 + (Int.toNat z3.1)) z4.1) 0 (List.length z1.2.2)), (z4.2.1, (z4.2.2.1, z4.2.2.2))))
     .fail))
    .fail))
   .fail))
  (.test (z2.1 == 1)
   (.test true
    (.test (decide ((1 ≤ (List.length z1.2.2)) ∧ ((List.length z1.2.2) ≤ (List.length z1.2.2))))
     (.test (decide ((1 + ((List.length z1.2.2) - 1)) ≤ (List.length z1.2.2)))
      (.ret ((win z1.2.2 1 ((List.length z1.2.2) - 1)), (z2.2.1, (z2.2.2.1, z2.2.2.2))))
      .fail)
     .fail)
    .fail)
   (.test (z2.1 == 2)
    (.test (decide (((0 : Int) ≤ (0 : Int)) ∧ (0 < ((List.length z1.2.2) : Int))))
     (.sub (z1.2.2[0]?) fun z6 =>
      (.test (decide (((0 : Int) ≤ (1 : Int)) ∧ (1 < ((List.length z1.2.2) : Int))))
      (.sub (z1.2.2[1]?) fun z7 =>
       (.test (decide (((0 : Int) ≤ (0 : Int)) ∧ (0 < ((List.length z1.2.2) : Int))))
       (.sub (z1.2.2[0]?) fun z8 =>
        (.test (decide (((0 : Int) ≤ (1 : Int)) ∧ (1 < ((List.length z1.2.2) : Int))))
        (.sub ((List.set z1.2.2 0 z7)[1]?) fun z9 =>
         (.test (decide ((0 + (List.length z1.2.2)) ≤ (List.length (List.set (List.set z1.2.2 0 z7) 1 z6))))
         (.ret ((win (List.set (List.set z1.2.2 0 z7) 1 z6) 0 (List.length z1.2.2)), (z2.2.1, (z2.2.2.1, z2.2.2.2))))
         .fail))
        .fail))
       .fail))
      .fail))
     .fail)
    (.test (decide ((0 + (List.length z1.2.2)) ≤ (List.length z1.2.2)))
     (.ret ((win z1.2.2 0 (List.length z1.2.2)), (z2.2.1, (z2.2.2.1, z2.2.2.2))))
     .fail)))))))
noncomputable def s_l1Cur_quiddity (v : ((Unit × Int) × (List (Int) × Int × Int))) : Option (List (Int) × (List (Int) × Int × Int)) := (s_l1Cur_quiddity_t v).run
noncomputable def s_l1Cur_quiddity_E : TEnv := (((E0.add1 n_s_l1Cur_pick s_l1Cur_pick_sh s_l1Cur_pick_fo s_l1Cur_pick).add1 n_s_l1Cur_sureQuiddity s_l1Cur_sureQuiddity_sh s_l1Cur_sureQuiddity_fo s_l1Cur_sureQuiddity).add1 n_s_l1Cur_among s_l1Cur_among_sh s_l1Cur_among_fo s_l1Cur_among)
theorem s_l1Cur_quiddity_Eok : (s_l1Cur_quiddity_E).OK := (((E0ok.add1 s_l1Cur_pick_ok).add1 s_l1Cur_sureQuiddity_ok).add1 s_l1Cur_among_ok)
noncomputable def s_l1Cur_quiddity_told : Nat → Option SealT := fun id => none
theorem s_l1Cur_quiddity_ok : FOK Try.prog n_s_l1Cur_quiddity s_l1Cur_quiddity_sh s_l1Cur_quiddity_fo s_l1Cur_quiddity :=
  fn_ok (E := s_l1Cur_quiddity_E) (s_l1Cur_quiddity_Eok) (told := s_l1Cur_quiddity_told) (fl := [some (.int .i64)]) (c := bodyOf fn_s_l1Cur_quiddity) (s := s_l1Cur_quiddity_sh) (l := s_l1Cur_quiddity_fo) (tree := s_l1Cur_quiddity_t) fnat_s_l1Cur_quiddity (by kernel_rfl) (by kernel_rfl) (by kernel_rfl) (loopsOK_of (ls := []) (by kernel_rfl) trivial) (fun v => by kernel_rfl)

def s_DrawClosesUp_sh : FSh := ⟨[(.one (.sl (.int .u8) false true))], []⟩

def s_DrawClosesUp_fo : List FO := [⟨[(.one (.sl (.int .i64) false true))], []⟩]
noncomputable def s_DrawClosesUp_t : List (Int) → T (List (Int)) := fun code =>
  (.sub (s_l1Cur_one (((), (3 : Int)), (code, ((0 : Int), (0 : Int))))) fun z0 =>
  (.test z0.1
  (.sub (s_l1Cur_terms (((), ((1 : Int), (3 : Int))), (z0.2.1, (z0.2.2.1, z0.2.2.2)))) fun z1 =>
   (.test (decide ((0 + (List.length z1.2.2)) ≤ (List.length z1.2.2)))
   (.ret (win z1.2.2 0 (List.length z1.2.2)))
   .fail))
  (.sub (s_l1Cur_quiddity (((), (10 : Int)), (z0.2.1, (z0.2.2.1, z0.2.2.2)))) fun z2 =>
   (.ret z2.1))))
noncomputable def s_DrawClosesUp (v : List (Int)) : Option (List (Int)) := (s_DrawClosesUp_t v).run
noncomputable def s_DrawClosesUp_E : TEnv := (((E0.add1 n_s_l1Cur_one s_l1Cur_one_sh s_l1Cur_one_fo s_l1Cur_one).add1 n_s_l1Cur_terms s_l1Cur_terms_sh s_l1Cur_terms_fo s_l1Cur_terms).add1 n_s_l1Cur_quiddity s_l1Cur_quiddity_sh s_l1Cur_quiddity_fo s_l1Cur_quiddity)
theorem s_DrawClosesUp_Eok : (s_DrawClosesUp_E).OK := (((E0ok.add1 s_l1Cur_one_ok).add1 s_l1Cur_terms_ok).add1 s_l1Cur_quiddity_ok)
noncomputable def s_DrawClosesUp_told : Nat → Option SealT := fun id => none
theorem s_DrawClosesUp_ok : FOK Try.prog n_s_DrawClosesUp s_DrawClosesUp_sh s_DrawClosesUp_fo s_DrawClosesUp :=
  fn_ok (E := s_DrawClosesUp_E) (s_DrawClosesUp_Eok) (told := s_DrawClosesUp_told) (fl := [some (.int .i64)]) (c := bodyOf fn_s_DrawClosesUp) (s := s_DrawClosesUp_sh) (l := s_DrawClosesUp_fo) (tree := s_DrawClosesUp_t) fnat_s_DrawClosesUp (by kernel_rfl) (by kernel_rfl) (by kernel_rfl) (loopsOK_of (ls := []) (by kernel_rfl) trivial) (fun v => by kernel_rfl)

def i_ClosesUp_sh : FSh := ⟨[(.one (.sl (.int .i64) false false))], []⟩

def i_ClosesUp_fo : List FO := [⟨[(.one .sb), (.one .sb)], []⟩]
noncomputable def i_ClosesUp_t : List (Int) → T (Bool × Bool) := fun list =>
  (.sub (i_IsTermList list) fun z0 =>
  (.test (! z0)
  (.ret (false, false))
  (.sub (i_matrixOfList list) fun z1 =>
   (.ret (((z1.1 == (-1)) && ((z1.2.1 == 0) && ((z1.2.2.1 == 0) && ((z1.2.2.2 == (-1)) && true)))), true)))))
noncomputable def i_ClosesUp (v : List (Int)) : Option (Bool × Bool) := (i_ClosesUp_t v).run
noncomputable def i_ClosesUp_E : TEnv := ((E0.add1 n_i_IsTermList i_IsTermList_sh i_IsTermList_fo i_IsTermList).add1 n_i_matrixOfList i_matrixOfList_sh i_matrixOfList_fo i_matrixOfList)
theorem i_ClosesUp_Eok : (i_ClosesUp_E).OK := ((E0ok.add1 i_IsTermList_ok).add1 i_matrixOfList_ok)
noncomputable def i_ClosesUp_told : Nat → Option SealT := fun id => none
theorem i_ClosesUp_ok : FOK Try.prog n_i_ClosesUp i_ClosesUp_sh i_ClosesUp_fo i_ClosesUp :=
  fn_ok (E := i_ClosesUp_E) (i_ClosesUp_Eok) (told := i_ClosesUp_told) (fl := []) (c := bodyOf fn_i_ClosesUp) (s := i_ClosesUp_sh) (l := i_ClosesUp_fo) (tree := i_ClosesUp_t) fnat_i_ClosesUp (by kernel_rfl) (by kernel_rfl) (by kernel_rfl) (loopsOK_of (ls := []) (by kernel_rfl) trivial) (fun v => by kernel_rfl)

theorem i_ClosesUp_eq (l : List Int) (hl : l.length < 4611686018427387904) : i_ClosesUp l = some (isTerms l && decide (mOf l = (-1, 0, 0, -1)), isTerms l) := by
  simp only [i_ClosesUp, i_ClosesUp_t, T.run, i_IsTermList_eq l hl, Option.bind_some]
  cases h : isTerms l with
  | false => simp
  | true =>
    rw [i_matrixOfList_eq l h]
    generalize mOf l = m
    obtain ⟨a, b, c, d⟩ := m
    simp [beq_int]


def s_ClosesUp_sh : FSh := ⟨[(.one (.sl (.int .i64) false false))], []⟩

def s_ClosesUp_fo : List FO := [⟨[(.one .sb), (.one .sb)], []⟩]
noncomputable def s_ClosesUp_t : List (Int) → T (Bool × Bool) := fun list =>
  (.sub (s_ctGood list) fun z0 =>
  (.test (! z0)
  (.ret (false, false))
  (.sub (s_mxList list) fun z1 =>
   (.ret (((z1.1 == (-1)) && ((z1.2.1 == 0) && ((z1.2.2.1 == 0) && ((z1.2.2.2 == (-1)) && true)))), true)))))
noncomputable def s_ClosesUp (v : List (Int)) : Option (Bool × Bool) := (s_ClosesUp_t v).run
noncomputable def s_ClosesUp_E : TEnv := ((E0.add1 n_s_ctGood s_ctGood_sh s_ctGood_fo s_ctGood).add1 n_s_mxList s_mxList_sh s_mxList_fo s_mxList)
theorem s_ClosesUp_Eok : (s_ClosesUp_E).OK := ((E0ok.add1 s_ctGood_ok).add1 s_mxList_ok)
noncomputable def s_ClosesUp_told : Nat → Option SealT := fun id => none
theorem s_ClosesUp_ok : FOK Try.prog n_s_ClosesUp s_ClosesUp_sh s_ClosesUp_fo s_ClosesUp :=
  fn_ok (E := s_ClosesUp_E) (s_ClosesUp_Eok) (told := s_ClosesUp_told) (fl := []) (c := bodyOf fn_s_ClosesUp) (s := s_ClosesUp_sh) (l := s_ClosesUp_fo) (tree := s_ClosesUp_t) fnat_s_ClosesUp (by kernel_rfl) (by kernel_rfl) (by kernel_rfl) (loopsOK_of (ls := []) (by kernel_rfl) trivial) (fun v => by kernel_rfl)

theorem s_ClosesUp_eq (l : List Int) (hl : l.length < 4611686018427387904) : s_ClosesUp l = some (isTerms l && decide (mOf l = (-1, 0, 0, -1)), isTerms l) := by
  simp only [s_ClosesUp, s_ClosesUp_t, T.run, s_ctGood_eq l hl, Option.bind_some]
  cases h : isTerms l with
  | false => simp
  | true =>
    rw [s_mxList_eq l h]
    generalize mOf l = m
    obtain ⟨a, b, c, d⟩ := m
    simp [beq_int]


def i_isPolygon_sh : FSh := ⟨[(.one (.si .i64))], []⟩

def i_isPolygon_fo : List FO := [⟨[(.one .sb)], []⟩]
noncomputable def i_isPolygon_t : Int → T Bool := fun n =>
  (.sub (i_within (n, ((3 : Int), (12 : Int)))) fun z0 =>
  (.ret z0))
noncomputable def i_isPolygon (v : Int) : Option Bool := (i_isPolygon_t v).run
noncomputable def i_isPolygon_E : TEnv := (E0.add1 n_i_within i_within_sh i_within_fo i_within)
theorem i_isPolygon_Eok : (i_isPolygon_E).OK := (E0ok.add1 i_within_ok)
noncomputable def i_isPolygon_told : Nat → Option SealT := fun id => none
theorem i_isPolygon_ok : FOK Try.prog n_i_isPolygon i_isPolygon_sh i_isPolygon_fo i_isPolygon :=
  fn_ok (E := i_isPolygon_E) (i_isPolygon_Eok) (told := i_isPolygon_told) (fl := []) (c := bodyOf fn_i_isPolygon) (s := i_isPolygon_sh) (l := i_isPolygon_fo) (tree := i_isPolygon_t) fnat_i_isPolygon (by kernel_rfl) (by kernel_rfl) (by kernel_rfl) (loopsOK_of (ls := []) (by kernel_rfl) trivial) (fun v => by kernel_rfl)

def slices_Index_int_sh : FSh := ⟨[(.one (.sl (.int .i64) false false)), (.one (.si .i64))], []⟩

def slices_Index_int_L2_sh : LSh := ⟨(fun ex => match ex with | .norm => [(0, none), (1, none), (7, none), (8, none)] | .exit i => if i = 0 then [] else [] | .ret => [(4, none)]), [(0, (.one (.sl (.int .i64) false false))), (1, (.one (.si .i64))), (7, (.one (.si .i64))), (8, (.one (.si .i64)))], [], [⟨.ret, [(4, (.one (.si .i64)))], []⟩, ⟨(.exit 0), [], []⟩], [], []⟩
noncomputable def slices_Index_int_L2_step : (List (Int) × Int × Int × Int) → T ((List (Int) × Int × Int × Int) ⊕ (Int ⊕ Unit)) := fun (s, v, t7, t8) =>
  (.test (decide (t8 < t7))
  (.test (decide ((0 ≤ t8) ∧ (t8 < ((List.length s) : Int))))
   (.sub (s[(Int.toNat t8)]?) fun z0 =>
    (.test (v == z0)
    (.ret (Sum.inr (Sum.inl t8)))
    (.ret (Sum.inl (s, (v, (t7, (w64 (t8 + 1)))))))))
   .fail)
  (.ret (Sum.inr (Sum.inr ()))))
noncomputable def slices_Index_int_L2 (v : (List (Int) × Int × Int × Int)) : Option (Int ⊕ Unit) := loopO (fun v => (slices_Index_int_L2_step v).run) v

def slices_Index_int_fo : List FO := [⟨[(.one (.si .i64))], []⟩]
noncomputable def slices_Index_int_t : (List (Int) × Int) → T Int := fun (s, v) =>
  (.sub (slices_Index_int_L2 (s, (v, (((List.length s) : Int), (0 : Int))))) fun z0 =>
  (.test (Sum.isLeft z0)
  (.sub (Sum.getLeft? z0) fun z1 =>
   (.ret z1))
  (.sub (Sum.getRight? z0) fun z2 =>
   (.ret (-1)))))
noncomputable def slices_Index_int (v : (List (Int) × Int)) : Option Int := (slices_Index_int_t v).run
noncomputable def slices_Index_int_E : TEnv := E0
theorem slices_Index_int_Eok : (slices_Index_int_E).OK := E0ok
noncomputable def slices_Index_int_told : Nat → Option SealT := fun id => if id = 2 then some (LSh.told slices_Index_int_L2_sh 0 (slices_Index_int_L2_step)) else none
theorem slices_Index_int_L2_ok : ToldOK Try.prog 0 (loopAt (bodyOf fn_slices_Index_int) [0]) (LSh.told slices_Index_int_L2_sh 0 (slices_Index_int_L2_step)) :=
  loop_ok (E := slices_Index_int_E) (slices_Index_int_Eok) (told := slices_Index_int_told) (l := slices_Index_int_L2_sh) (step := slices_Index_int_L2_step) (loopsOK_of (ls := []) (by kernel_rfl) trivial) (by kernel_rfl) (fun v => by kernel_rfl)
theorem slices_Index_int_ok : FOK Try.prog n_slices_Index_int slices_Index_int_sh slices_Index_int_fo slices_Index_int :=
  fn_ok (E := slices_Index_int_E) (slices_Index_int_Eok) (told := slices_Index_int_told) (fl := []) (c := bodyOf fn_slices_Index_int) (s := slices_Index_int_sh) (l := slices_Index_int_fo) (tree := slices_Index_int_t) fnat_slices_Index_int (by kernel_rfl) (by kernel_rfl) (by kernel_rfl) (loopsOK_of (ls := [loopAt (bodyOf fn_slices_Index_int) [0]]) (by kernel_rfl) ⟨.inr ⟨_, by kernel_rfl, slices_Index_int_L2_ok⟩, trivial⟩) (fun v => by kernel_rfl)

theorem slices_Index_int_eq (s : List Int) (v : Int) (hl : s.length < 4611686018427387904) : slices_Index_int (s, v) = some (idxI (fun x => v == x) s) := by
  have h := loop_find (step := fun v => (slices_Index_int_L2_step v).run) (xs := s) (fun x => v == x) (fun k => (s, (v, ((s.length : Int), (k : Int))))) (fun k => .inl (k : Int)) (.inr ())
    (fun k x hx => by
      have hlt := getElem?_lt hx
      have h1 : (k : Int) < (s.length : Int) := by omega
      have h2 : (0 : Int) ≤ k ∧ (k : Int) < (s.length : Int) := by omega
      simp only [slices_Index_int_L2_step, T.run, Int.toNat_natCast, hx, Option.bind_some, h1, h2, decide_true, if_true, and_self]
      rw [w64_id (z := (k : Int) + 1) (by omega) (by omega)]
      cases hv : (v == x) <;> simp [hv])
    (by simp [slices_Index_int_L2_step, T.run])
  rw [show ((0 : Nat) : Int) = 0 from rfl] at h
  simp only [slices_Index_int, slices_Index_int_t, T.run, slices_Index_int_L2]
  rw [h]
  simp only [idxI]
  cases hf : s.findIdx? (fun x => v == x) <;> simp [Sum.isLeft, hf]


def slices_Delete_int_sh : FSh := ⟨[.one (.rw 0 0), .one (.si .i64), .one (.si .i64)], [.row 0 (.int .i64)]⟩
def slices_Delete_int_fo : List FO := [⟨[.one (.rw 0 0)], [.row 0 (.int .i64)]⟩]
def slices_Delete_int (v : (Unit × Int × Int) × List Int) : Option (Unit × List Int) := if 0 ≤ v.1.2.1 ∧ v.1.2.1 < v.1.2.2 ∧ v.1.2.2 ≤ (v.2.length : Int) ∧ v.2.length ≤ 4611686018427387904 then some ((), v.2.take v.1.2.1.toNat ++ v.2.drop v.1.2.2.toNat) else none
def slices_Delete_int_ren : Shelf.Ren := ⟨fun _ => n_slices_Delete_int, fun t => if t = 0 then 0 else if t = 3 then 3 else if t = 4 then 4 else if t = 22 then 24 else 3, fun x => x⟩
theorem slices_Delete_int_lay : SlLaysE0.n45 Try.prog slices_Delete_int_ren :=
  { mixed := by kernel_rfl, f45 := ⟨"slices.Delete[[]int,int]", by kernel_rfl, by kernel_rfl⟩, t0 := by kernel_rfl, a0 := fun w => by kernel_rfl, z0 := fun w => by kernel_rfl, v0 := fun w => by kernel_rfl, t3 := by kernel_rfl, a3 := fun w => by kernel_rfl, z3 := fun w => by kernel_rfl, v3 := fun w => by kernel_rfl, t4 := by kernel_rfl, a4 := fun w => by kernel_rfl, z4 := fun w => by kernel_rfl, v4 := fun w => by kernel_rfl, t22 := by kernel_rfl, a22 := fun w => by kernel_rfl, z22 := fun w => by kernel_rfl, v22 := fun w => by kernel_rfl }
noncomputable def slices_Delete_int_info : TypeInfo := (Try.prog.info? 3).get (by kernel_rfl)
theorem slices_Delete_int_ok : FOK Try.prog n_slices_Delete_int slices_Delete_int_sh slices_Delete_int_fo slices_Delete_int :=
  delete_ok ⟨_, fnat_slices_Delete_int, by kernel_rfl, by kernel_rfl⟩ (ρr := slices_Delete_int_ren) rfl slices_Delete_int_lay (fun w => by kernel_rfl) (fun w => by kernel_rfl) (fun w => by kernel_rfl) slices_Delete_int_info (by kernel_rfl) (by kernel_rfl)

def math_bits_Len_sh : FSh := ⟨[.one (.si .u64)], []⟩
def math_bits_Len_fo : List FO := [⟨[.one (.si .i64)], []⟩]
def math_bits_Len (x : Int) : Option Int := if 0 ≤ x ∧ x ≤ 18446744073709551615 then some (Lib.bitLen x.toNat : Int) else none
def math_bits_Len_ren : Shelf.Ren := ⟨fun k => if k = 125 then n_math_bits_Len else if k = 128 then 111 else 112, fun t => if t = 3 then 3 else if t = 4 then 4 else if t = 5 then 5 else if t = 9 then 9 else if t = 46 then 84 else if t = 51 then 102 else 50, fun x => x⟩
theorem math_bits_Len_lay : Lays.n125 Try.prog math_bits_Len_ren :=
  { mixed := by kernel_rfl, f125 := by kernel_rfl, f128 := by kernel_rfl, f129 := by kernel_rfl, t3 := by kernel_rfl, a3 := fun w => by kernel_rfl, z3 := fun w => by kernel_rfl, v3 := fun w => by kernel_rfl, t4 := by kernel_rfl, a4 := fun w => by kernel_rfl, z4 := fun w => by kernel_rfl, v4 := fun w => by kernel_rfl, t5 := by kernel_rfl, a5 := fun w => by kernel_rfl, z5 := fun w => by kernel_rfl, v5 := fun w => by kernel_rfl, t9 := by kernel_rfl, a9 := fun w => by kernel_rfl, z9 := fun w => by kernel_rfl, v9 := fun w => by kernel_rfl, t46 := by kernel_rfl, a46 := fun w => by kernel_rfl, z46 := fun w => by kernel_rfl, v46 := fun w => by kernel_rfl, t51 := by kernel_rfl, a51 := fun w => by kernel_rfl, z51 := fun w => by kernel_rfl, v51 := fun w => by kernel_rfl, t53 := by kernel_rfl, a53 := fun w => by kernel_rfl, z53 := fun w => by kernel_rfl, v53 := fun w => by kernel_rfl }
theorem math_bits_Len_ok : FOK Try.prog n_math_bits_Len math_bits_Len_sh math_bits_Len_fo math_bits_Len :=
  bitsLen_ok ⟨_, fnat_math_bits_Len, by kernel_rfl, by kernel_rfl⟩ (ρr := math_bits_Len_ren) rfl math_bits_Len_lay

def cmp_isNaN_int_sh : FSh := ⟨[(.one (.si .i64))], []⟩

def cmp_isNaN_int_fo : List FO := [⟨[(.one .sb)], []⟩]
noncomputable def cmp_isNaN_int_t : Int → T Bool := fun x =>
  (.ret (x != x))
noncomputable def cmp_isNaN_int (v : Int) : Option Bool := (cmp_isNaN_int_t v).run
noncomputable def cmp_isNaN_int_E : TEnv := E0
theorem cmp_isNaN_int_Eok : (cmp_isNaN_int_E).OK := E0ok
noncomputable def cmp_isNaN_int_told : Nat → Option SealT := fun id => none
theorem cmp_isNaN_int_ok : FOK Try.prog n_cmp_isNaN_int cmp_isNaN_int_sh cmp_isNaN_int_fo cmp_isNaN_int :=
  fn_ok (E := cmp_isNaN_int_E) (cmp_isNaN_int_Eok) (told := cmp_isNaN_int_told) (fl := []) (c := bodyOf fn_cmp_isNaN_int) (s := cmp_isNaN_int_sh) (l := cmp_isNaN_int_fo) (tree := cmp_isNaN_int_t) fnat_cmp_isNaN_int (by kernel_rfl) (by kernel_rfl) (by kernel_rfl) (loopsOK_of (ls := []) (by kernel_rfl) trivial) (fun v => by kernel_rfl)

def cmp_Compare_int_sh : FSh := ⟨[(.one (.si .i64)), (.one (.si .i64))], []⟩

def cmp_Compare_int_fo : List FO := [⟨[(.one (.si .i64))], []⟩]
noncomputable def cmp_Compare_int_t : (Int × Int) → T Int := fun (x, y) =>
  (.sub (cmp_isNaN_int x) fun z0 =>
  (.sub (cmp_isNaN_int y) fun z1 =>
  (.test z0
  (.test z1
   (.ret (0 : Int))
   (.ret (-1)))
  (.test z1
   (.ret (1 : Int))
   (.test (decide (x < y))
    (.ret (-1))
    (.test (decide (x > y))
     (.ret (1 : Int))
     (.ret (0 : Int))))))))
noncomputable def cmp_Compare_int (v : (Int × Int)) : Option Int := (cmp_Compare_int_t v).run
noncomputable def cmp_Compare_int_E : TEnv := (E0.add1 n_cmp_isNaN_int cmp_isNaN_int_sh cmp_isNaN_int_fo cmp_isNaN_int)
theorem cmp_Compare_int_Eok : (cmp_Compare_int_E).OK := (E0ok.add1 cmp_isNaN_int_ok)
noncomputable def cmp_Compare_int_told : Nat → Option SealT := fun id => none
theorem cmp_Compare_int_ok : FOK Try.prog n_cmp_Compare_int cmp_Compare_int_sh cmp_Compare_int_fo cmp_Compare_int :=
  fn_ok (E := cmp_Compare_int_E) (cmp_Compare_int_Eok) (told := cmp_Compare_int_told) (fl := []) (c := bodyOf fn_cmp_Compare_int) (s := cmp_Compare_int_sh) (l := cmp_Compare_int_fo) (tree := cmp_Compare_int_t) fnat_cmp_Compare_int (by kernel_rfl) (by kernel_rfl) (by kernel_rfl) (loopsOK_of (ls := []) (by kernel_rfl) trivial) (fun v => by kernel_rfl)

theorem cmp_Compare_int_eq (a b : Int) : cmp_Compare_int (a, b) = some (if a < b then -1 else if b < a then 1 else 0) := by
  have h : ∀ x, cmp_isNaN_int x = some false := fun x => by simp [cmp_isNaN_int, cmp_isNaN_int_t, T.run]
  simp only [cmp_Compare_int, cmp_Compare_int_t, T.run, h, Option.bind_some]
  by_cases h1 : a < b
  · simp [h1]
  · by_cases h2 : b < a <;> simp [h1, h2]


def cmp_Or_int_sh : FSh := ⟨[(.one (.sl (.int .i64) false false))], []⟩

def cmp_Or_int_L3_sh : LSh := ⟨(fun ex => match ex with | .norm => [(3, none), (6, none), (7, none), (8, none)] | .exit i => if i = 0 then [(3, none)] else [] | .ret => [(2, none)]), [(3, (.one (.si .i64))), (6, (.one (.sl (.int .i64) false false))), (7, (.one (.si .i64))), (8, (.one (.si .i64)))], [], [⟨.ret, [(2, (.one (.si .i64)))], []⟩, ⟨(.exit 0), [(3, (.one (.si .i64)))], []⟩], [], []⟩
noncomputable def cmp_Or_int_L3_step : (Int × List (Int) × Int × Int) → T ((Int × List (Int) × Int × Int) ⊕ (Int ⊕ Int)) := fun (zero, t6, t7, t8) =>
  (.test (decide (t8 < t7))
  (.test (decide ((0 ≤ t8) ∧ (t8 < ((List.length t6) : Int))))
   (.sub (t6[(Int.toNat t8)]?) fun z0 =>
    (.test (z0 != zero)
    (.ret (Sum.inr (Sum.inl z0)))
    (.ret (Sum.inl (zero, (t6, (t7, (w64 (t8 + 1)))))))))
   .fail)
  (.ret (Sum.inr (Sum.inr zero))))
noncomputable def cmp_Or_int_L3 (v : (Int × List (Int) × Int × Int)) : Option (Int ⊕ Int) := loopO (fun v => (cmp_Or_int_L3_step v).run) v

def cmp_Or_int_fo : List FO := [⟨[(.one (.si .i64))], []⟩]
noncomputable def cmp_Or_int_t : List (Int) → T Int := fun vals =>
  (.sub (cmp_Or_int_L3 ((0 : Int), (vals, (((List.length vals) : Int), (0 : Int))))) fun z0 =>
  (.test (Sum.isLeft z0)
  (.sub (Sum.getLeft? z0) fun z1 =>
   (.ret z1))
  (.sub (Sum.getRight? z0) fun z2 =>
   (.ret z2))))
noncomputable def cmp_Or_int (v : List (Int)) : Option Int := (cmp_Or_int_t v).run
noncomputable def cmp_Or_int_E : TEnv := E0
theorem cmp_Or_int_Eok : (cmp_Or_int_E).OK := E0ok
noncomputable def cmp_Or_int_told : Nat → Option SealT := fun id => if id = 3 then some (LSh.told cmp_Or_int_L3_sh 0 (cmp_Or_int_L3_step)) else none
theorem cmp_Or_int_L3_ok : ToldOK Try.prog 0 (loopAt (bodyOf fn_cmp_Or_int) [0]) (LSh.told cmp_Or_int_L3_sh 0 (cmp_Or_int_L3_step)) :=
  loop_ok (E := cmp_Or_int_E) (cmp_Or_int_Eok) (told := cmp_Or_int_told) (l := cmp_Or_int_L3_sh) (step := cmp_Or_int_L3_step) (loopsOK_of (ls := []) (by kernel_rfl) trivial) (by kernel_rfl) (fun v => by kernel_rfl)
theorem cmp_Or_int_ok : FOK Try.prog n_cmp_Or_int cmp_Or_int_sh cmp_Or_int_fo cmp_Or_int :=
  fn_ok (E := cmp_Or_int_E) (cmp_Or_int_Eok) (told := cmp_Or_int_told) (fl := []) (c := bodyOf fn_cmp_Or_int) (s := cmp_Or_int_sh) (l := cmp_Or_int_fo) (tree := cmp_Or_int_t) fnat_cmp_Or_int (by kernel_rfl) (by kernel_rfl) (by kernel_rfl) (loopsOK_of (ls := [loopAt (bodyOf fn_cmp_Or_int) [0]]) (by kernel_rfl) ⟨.inr ⟨_, by kernel_rfl, cmp_Or_int_L3_ok⟩, trivial⟩) (fun v => by kernel_rfl)

theorem cmp_Or_int_two (a b : Int) : cmp_Or_int [a, b] = some (if a = 0 then b else a) := by
  simp only [cmp_Or_int, cmp_Or_int_t, T.run, cmp_Or_int_L3]
  rw [loopO_step]
  simp only [cmp_Or_int_L3_step, T.run]
  by_cases ha : a = 0
  · subst ha
    simp [w64_id (z := 1)]
    rw [loopO_step]
    simp only [cmp_Or_int_L3_step, T.run]
    by_cases hb : b = 0
    · subst hb
      simp [w64_id (z := 2)]
      rw [loopO_step]
      simp [cmp_Or_int_L3_step, T.run]
    · simp [hb]
  · simp [ha]



abbrev Dg := Int × Int
def nbB (n i : Nat) : Nat := (i + n - 1) % n
def nbC (n i : Nat) : Nat := (i + 1) % n
def decAt (l : List Int) (p : Nat) : List Int := l.set p (w64 (l.getD p 0 - 1))
/-- A list with the ear at a place cut off. -/
def cutL (l : List Int) (i : Nat) : List Int := (decAt (decAt l (nbB l.length i)) (nbC l.length i)).eraseIdx i
def cutD (names : List Int) (i : Nat) : Dg :=
  (min (names.getD (nbB names.length i) 0) (names.getD (nbC names.length i) 0), max (names.getD (nbB names.length i) 0) (names.getD (nbC names.length i) 0))
def ear (l : List Int) : Option Nat := l.findIdx? (fun x => (1 : Int) == x)
def okC (l : List Int) (i : Nat) : Bool := decide (1 ≤ w64 (l.getD (nbB l.length i) 0 - 1) ∧ 1 ≤ w64 (l.getD (nbC l.length i) 0 - 1))
/-- Ears are cut off until three corners are left. -/
def tri : Nat → List Int → List Int → Option (List Dg)
  | 0, l, _ => if l = [1, 1, 1] then some [] else none
  | k + 1, l, names => match ear l with
    | none => none
    | some i => (tri k (cutL l i) (names.eraseIdx i)).map (cutD names i :: ·)
/-- .. with a look at the two neighbours. -/
def triS : Nat → List Int → List Int → Option (List Dg)
  | 0, l, _ => if l = [1, 1, 1] then some [] else none
  | k + 1, l, names => match ear l with
    | none => none
    | some i => if okC l i then (triS k (cutL l i) (names.eraseIdx i)).map (cutD names i :: ·) else none
def cntD (d : Dg) (m : Int) : Int := (if d.1 = m then 1 else 0) + (if d.2 = m then 1 else 0)
def cnt (ds : List Dg) (m : Int) : Int := ds.foldr (fun d s => cntD d m + s) 0
def crossD (d e : Dg) : Bool := (decide (d.1 < e.1) && decide (e.1 < d.2) && decide (d.2 < e.2)) || (decide (e.1 < d.1) && decide (d.1 < e.2) && decide (e.2 < d.2))
def Ends (names : List Int) (d : Dg) : Prop := d.1 ∈ names ∧ d.2 ∈ names ∧ d.1 < d.2 ∧ (∃ m ∈ names, d.1 < m ∧ m < d.2) ∧ (∃ m ∈ names, m < d.1 ∨ d.2 < m)
def Apart (d e : Dg) : Prop := d ≠ e ∧ crossD d e = false
def Good (names : List Int) (ds : List Dg) : Prop := (∀ d ∈ ds, Ends names d) ∧ ds.Pairwise Apart
theorem nb_facts {n i : Nat} (hn : 3 ≤ n) (hi : i < n) : nbB n i < n ∧ nbC n i < n ∧ nbB n i ≠ i ∧ nbC n i ≠ i ∧ nbB n i ≠ nbC n i ∧
    ((i = 0 ∧ nbB n i = n - 1 ∧ nbC n i = 1) ∨ (i = n - 1 ∧ nbB n i = n - 2 ∧ nbC n i = 0) ∨ (0 < i ∧ i < n - 1 ∧ nbB n i = i - 1 ∧ nbC n i = i + 1)) := by
  unfold nbB nbC
  by_cases h0 : i = 0
  · subst h0
    rw [Nat.mod_eq_of_lt (by omega), Nat.mod_eq_of_lt (by omega)]
    omega
  · rw [show i + n - 1 = (i - 1) + n by omega, Nat.add_mod_right, Nat.mod_eq_of_lt (by omega)]
    by_cases h1 : i = n - 1
    · subst h1
      rw [show n - 1 + 1 = n by omega, Nat.mod_self]
      omega
    · rw [Nat.mod_eq_of_lt (by omega)]
      omega
theorem ear_lt {l : List Int} {i : Nat} (h : ear l = some i) : i < l.length ∧ l[i]? = some 1 := by
  obtain ⟨h1, h2, _⟩ := List.findIdx?_eq_some_iff_getElem.1 h
  refine ⟨h1, ?_⟩
  rw [List.getElem?_eq_getElem h1]
  simp at h2
  rw [← h2]
theorem decAt_length (l : List Int) (p : Nat) : (decAt l p).length = l.length := by simp [decAt]
theorem cutL_length {l : List Int} {i : Nat} (h : i < l.length) : (cutL l i).length = l.length - 1 := by
  unfold cutL
  rw [List.length_eraseIdx, decAt_length, decAt_length, if_pos h]
/-- What a cut list holds. -/
def cutV (l : List Int) (i p : Nat) : Int := if p = nbB l.length i ∨ p = nbC l.length i then w64 (l.getD p 0 - 1) else l.getD p 0
theorem dec2_get {l : List Int} {i p : Nat} (hn : 3 ≤ l.length) (hi : i < l.length) (hp : p < l.length) :
    (decAt (decAt l (nbB l.length i)) (nbC l.length i))[p]? = some (cutV l i p) := by
  obtain ⟨h1, h2, h3, h4, h5, _⟩ := nb_facts hn hi
  unfold decAt cutV
  by_cases e1 : nbC l.length i = p
  · subst e1
    rw [List.getElem?_set_self (by simpa using h2), if_pos (.inr rfl)]
    simp only [List.getD_eq_getElem?_getD, List.getElem?_set_ne h5]
  · rw [List.getElem?_set_ne e1]
    by_cases e2 : nbB l.length i = p
    · subst e2
      rw [List.getElem?_set_self h1, if_pos (.inl rfl)]
    · rw [List.getElem?_set_ne e2, if_neg (by omega), List.getD_eq_getElem?_getD, List.getElem?_eq_getElem hp]
      rfl
theorem cutL_get {l : List Int} {i p : Nat} (hn : 3 ≤ l.length) (hi : i < l.length) (hp : p < l.length) (hpi : p ≠ i) :
    (cutL l i)[if p < i then p else p - 1]? = some (cutV l i p) := by
  unfold cutL
  rw [List.getElem?_eraseIdx]
  by_cases h : p < i
  · simp only [h, if_true]
    exact dec2_get hn hi hp
  · simp only [h, if_false]
    rw [if_neg (by omega), show p - 1 + 1 = p by omega]
    exact dec2_get hn hi hp
theorem erase_get {X : Type} {names : List X} {i p : Nat} (hpi : p ≠ i) : (names.eraseIdx i)[if p < i then p else p - 1]? = names[p]? := by
  rw [List.getElem?_eraseIdx]
  by_cases h : p < i
  · simp [h]
  · simp only [h, if_false]
    rw [if_neg (by omega), show p - 1 + 1 = p by omega]
theorem erase_mem {X : Type} {names : List X} {i : Nat} {m : X} (h : m ∈ names.eraseIdx i) : ∃ p, p ≠ i ∧ names[p]? = some m := by
  obtain ⟨j, hj1, hj2⟩ := List.mem_eraseIdx_iff_getElem?.1 h
  exact ⟨j, hj1, hj2⟩
theorem sorted_get {names : List Int} (hs : names.Pairwise (· < ·)) {p q : Nat} (h : p < q) {a b : Int} (ha : names[p]? = some a) (hb : names[q]? = some b) : a < b := by
  obtain ⟨h1, e1⟩ := List.getElem?_eq_some_iff.1 ha
  obtain ⟨h2, e2⟩ := List.getElem?_eq_some_iff.1 hb
  rw [← e1, ← e2]
  exact List.pairwise_iff_getElem.1 hs p q h1 h2 h
theorem sorted_inj {names : List Int} (hs : names.Pairwise (· < ·)) {p q : Nat} {a : Int} (ha : names[p]? = some a) (hb : names[q]? = some a) : p = q := by
  rcases Nat.lt_trichotomy p q with h | h | h
  · have := sorted_get hs h ha hb; omega
  · exact h
  · have := sorted_get hs h hb ha; omega
theorem getD_some {X : Type} {l : List X} {p : Nat} {a d : X} (h : l[p]? = some a) : l.getD p d = a := by rw [List.getD_eq_getElem?_getD, h]; rfl
/-- The diagonal of a cut ear, among the names. -/
theorem cutD_facts {names : List Int} (hs : names.Pairwise (· < ·)) {i : Nat} (hn : 4 ≤ names.length) (hi : i < names.length) :
    Ends names (cutD names i) ∧ (cutD names i).1 ∈ names.eraseIdx i ∧ (cutD names i).2 ∈ names.eraseIdx i ∧
    ((∀ m ∈ names.eraseIdx i, ¬ ((cutD names i).1 < m ∧ m < (cutD names i).2)) ∨ (∀ m ∈ names.eraseIdx i, ¬ (m < (cutD names i).1 ∨ (cutD names i).2 < m))) ∧
    ∀ p m, names[p]? = some m → cntD (cutD names i) m = if p = nbB names.length i ∨ p = nbC names.length i then 1 else 0 := by
  obtain ⟨h1, h2, h3, h4, h5, h6⟩ := nb_facts (by omega : 3 ≤ names.length) hi
  have gb := List.getElem?_eq_getElem h1
  have gc := List.getElem?_eq_getElem h2
  have gi := List.getElem?_eq_getElem hi
  have hmem : ∀ p, p ≠ i → ∀ m, names[p]? = some m → m ∈ names.eraseIdx i := fun p hp m hm => List.mem_eraseIdx_iff_getElem?.2 ⟨p, hp, hm⟩
  have mb := hmem _ h3 _ gb
  have mc := hmem _ h4 _ gc
  have hD : cutD names i = (min names[nbB names.length i] names[nbC names.length i], max names[nbB names.length i] names[nbC names.length i]) := by
    unfold cutD; rw [getD_some gb, getD_some gc]
  have hE : ∀ {m}, m ∈ names.eraseIdx i → ∃ p, p ≠ i ∧ names[p]? = some m := fun h => erase_mem h
  have g0 := List.getElem?_eq_getElem (show 0 < names.length by omega)
  have g1 := List.getElem?_eq_getElem (show 1 < names.length by omega)
  have g2 := List.getElem?_eq_getElem (show 2 < names.length by omega)
  have gl := List.getElem?_eq_getElem (show names.length - 1 < names.length by omega)
  have key : ∀ a b : Int, (names[nbB names.length i] = a ∧ names[nbC names.length i] = b ∨ names[nbB names.length i] = b ∧ names[nbC names.length i] = a) → a < b → (cutD names i) = (a, b) := by
    intro a b h hab
    rw [hD]
    rcases h with ⟨e1, e2⟩ | ⟨e1, e2⟩ <;> rw [e1, e2] <;> simp only [Prod.mk.injEq] <;> constructor <;> omega
  have hcnt : ∀ p m, names[p]? = some m → cntD (cutD names i) m = if p = nbB names.length i ∨ p = nbC names.length i then 1 else 0 := by
    intro p m hm
    have e1 : p = nbB names.length i ↔ names[nbB names.length i] = m := ⟨fun e => by subst e; rw [gb] at hm; exact Option.some.inj hm, fun e => sorted_inj hs hm (by rw [gb, e])⟩
    have e2 : p = nbC names.length i ↔ names[nbC names.length i] = m := ⟨fun e => by subst e; rw [gc] at hm; exact Option.some.inj hm, fun e => sorted_inj hs hm (by rw [gc, e])⟩
    rw [hD]
    unfold cntD
    simp only []
    by_cases c1 : p = nbB names.length i
    · have c2 : ¬ p = nbC names.length i := by omega
      have d1 := e1.1 c1
      have d2 : ¬ names[nbC names.length i] = m := fun e => c2 (e2.2 e)
      simp only [c1, true_or, if_true]
      split <;> split <;> omega
    · have d1 : ¬ names[nbB names.length i] = m := fun e => c1 (e1.2 e)
      by_cases c2 : p = nbC names.length i
      · have d2 := e2.1 c2
        simp only [c2, or_true, if_true]
        split <;> split <;> omega
      · have d2 : ¬ names[nbC names.length i] = m := fun e => c2 (e2.2 e)
        rw [if_neg (by omega : ¬ (p = nbB names.length i ∨ p = nbC names.length i))]
        split <;> split <;> omega
  rcases h6 with ⟨hi0, hb, hc⟩ | ⟨hi0, hb, hc⟩ | ⟨hi0, hi1, hb, hc⟩
  · have lt1 := sorted_get hs (show nbC names.length i < nbB names.length i by omega) gc gb
    have e := key _ _ (.inr ⟨rfl, rfl⟩) lt1
    rw [e]
    refine ⟨⟨List.mem_of_getElem? gc, List.mem_of_getElem? gb, lt1, ⟨_, List.mem_of_getElem? g2, sorted_get hs (by omega) gc g2, sorted_get hs (by omega) g2 gb⟩, ⟨_, List.mem_of_getElem? g0, .inl (sorted_get hs (by omega) g0 gc)⟩⟩, mc, mb, .inr ?_, ?_⟩
    · intro m hm
      obtain ⟨p, hp, hpm⟩ := hE hm
      have := getElem?_lt hpm
      rintro (h | h)
      · have : ¬ nbC names.length i ≤ p := by
          intro hle
          rcases Nat.lt_or_eq_of_le hle with h' | h'
          · have := sorted_get hs h' gc hpm; simp only [] at h; omega
          · subst h'; rw [gc] at hpm; have := Option.some.inj hpm; simp only [] at h; omega
        omega
      · have : ¬ p ≤ nbB names.length i := by
          intro hle
          rcases Nat.lt_or_eq_of_le hle with h' | h'
          · have := sorted_get hs h' hpm gb; simp only [] at h; omega
          · subst h'; rw [gb] at hpm; have := Option.some.inj hpm; simp only [] at h; omega
        omega
    · rw [← e]; exact hcnt
  · have lt1 := sorted_get hs (show nbC names.length i < nbB names.length i by omega) gc gb
    have e := key _ _ (.inr ⟨rfl, rfl⟩) lt1
    rw [e]
    refine ⟨⟨List.mem_of_getElem? gc, List.mem_of_getElem? gb, lt1, ⟨_, List.mem_of_getElem? g1, sorted_get hs (by omega) gc g1, sorted_get hs (by omega) g1 gb⟩, ⟨_, List.mem_of_getElem? gl, .inr (sorted_get hs (by omega) gb gl)⟩⟩, mc, mb, .inr ?_, ?_⟩
    · intro m hm
      obtain ⟨p, hp, hpm⟩ := hE hm
      have := getElem?_lt hpm
      rintro (h | h)
      · have : ¬ nbC names.length i ≤ p := by
          intro hle
          rcases Nat.lt_or_eq_of_le hle with h' | h'
          · have := sorted_get hs h' gc hpm; simp only [] at h; omega
          · subst h'; rw [gc] at hpm; have := Option.some.inj hpm; simp only [] at h; omega
        omega
      · have : ¬ p ≤ nbB names.length i := by
          intro hle
          rcases Nat.lt_or_eq_of_le hle with h' | h'
          · have := sorted_get hs h' hpm gb; simp only [] at h; omega
          · subst h'; rw [gb] at hpm; have := Option.some.inj hpm; simp only [] at h; omega
        omega
    · rw [← e]; exact hcnt
  · have lt1 := sorted_get hs (show nbB names.length i < nbC names.length i by omega) gb gc
    have e := key _ _ (.inl ⟨rfl, rfl⟩) lt1
    rw [e]
    refine ⟨⟨List.mem_of_getElem? gb, List.mem_of_getElem? gc, lt1, ⟨_, List.mem_of_getElem? gi, sorted_get hs (by omega) gb gi, sorted_get hs (by omega) gi gc⟩, ?_⟩, mb, mc, .inl ?_, ?_⟩
    · by_cases hz : 0 < nbB names.length i
      · exact ⟨_, List.mem_of_getElem? g0, .inl (sorted_get hs hz g0 gb)⟩
      · exact ⟨_, List.mem_of_getElem? gl, .inr (sorted_get hs (by omega) gc gl)⟩
    · intro m hm
      obtain ⟨p, hp, hpm⟩ := hE hm
      have := getElem?_lt hpm
      rintro ⟨ha, hb'⟩
      have c1 : nbB names.length i < p := by
        rcases Nat.lt_trichotomy (nbB names.length i) p with h' | h' | h'
        · exact h'
        · subst h'; rw [gb] at hpm; have := Option.some.inj hpm; simp only [] at ha; omega
        · have := sorted_get hs h' hpm gb; simp only [] at ha; omega
      have c2 : p < nbC names.length i := by
        rcases Nat.lt_trichotomy p (nbC names.length i) with h' | h' | h'
        · exact h'
        · subst h'; rw [gc] at hpm; have := Option.some.inj hpm; simp only [] at hb'; omega
        · have := sorted_get hs h' gc hpm; simp only [] at hb'; omega
      omega
    · rw [← e]; exact hcnt
theorem Ends.mono {names names' : List Int} (h : ∀ m ∈ names', m ∈ names) {d : Dg} (hd : Ends names' d) : Ends names d := by
  obtain ⟨a, b, c, ⟨m, hm, hm'⟩, ⟨q, hq, hq'⟩⟩ := hd
  exact ⟨h _ a, h _ b, c, ⟨m, h _ hm, hm'⟩, ⟨q, h _ hq, hq'⟩⟩
/-- What the cut off diagonals are. -/
theorem tri_good : ∀ (k : Nat) (l names : List Int) (ds : List Dg), names.Pairwise (· < ·) → l.length = k + 3 → names.length = k + 3 → tri k l names = some ds → ds.length = k ∧ Good names ds
  | 0, l, names, ds, hs, hl, hn, h => by
    unfold tri at h
    split at h
    · cases h; exact ⟨rfl, by simp, by simp⟩
    · cases h
  | k + 1, l, names, ds, hs, hl, hn, h => by
    unfold tri at h
    cases he : ear l with
    | none => rw [he] at h; cases h
    | some i =>
      rw [he] at h
      simp only [] at h
      obtain ⟨hi, _⟩ := ear_lt he
      obtain ⟨ds', h1, h2⟩ := Option.map_eq_some_iff.1 h
      subst h2
      have hE : (names.eraseIdx i).length = k + 3 := by rw [List.length_eraseIdx, if_pos (by omega)]; omega
      have hsub : ∀ m ∈ names.eraseIdx i, m ∈ names := fun m hm => List.mem_of_mem_eraseIdx hm
      obtain ⟨g1, g2, g3⟩ := tri_good k (cutL l i) (names.eraseIdx i) ds' (hs.sublist (List.eraseIdx_sublist ..)) (by rw [cutL_length hi]; omega) hE h1
      obtain ⟨f1, f2, f3, f4, f5⟩ := cutD_facts hs (by omega) (show i < names.length by omega)
      refine ⟨by simp [g1], fun d hd => ?_, ?_⟩
      · rcases List.mem_cons.1 hd with rfl | hd
        · exact f1
        · exact (g2 d hd).mono hsub
      · refine List.pairwise_cons.2 ⟨fun e he' => ?_, g3⟩
        obtain ⟨q1, q2, q3, ⟨m, q4, q5⟩, ⟨m', q6, q7⟩⟩ := g2 e he'
        generalize cutD names i = d at *
        constructor
        · rintro rfl
          rcases f4 with f4 | f4
          · exact f4 m q4 q5
          · exact f4 m' q6 q7
        · unfold crossD
          rcases f4 with f4 | f4
          · have a1 := f4 _ q1
            have a2 := f4 _ q2
            simp
            constructor <;> intro h1 h2 <;> omega
          · have a1 := f4 _ q1
            have a2 := f4 _ q2
            simp
            constructor <;> intro h1 h2 <;> omega
theorem cnt_nn (ds : List Dg) (m : Int) : 0 ≤ cnt ds m ∧ cnt ds m ≤ 2 * ds.length := by
  induction ds with
  | nil => simp [cnt]
  | cons d t ih =>
    have : cnt (d :: t) m = cntD d m + cnt t m := rfl
    rw [this, List.length_cons]
    unfold cntD
    split <;> split <;> omega
theorem cnt_zero (ds : List Dg) (m : Int) (h : ∀ d ∈ ds, d.1 ≠ m ∧ d.2 ≠ m) : cnt ds m = 0 := by
  induction ds with
  | nil => simp [cnt]
  | cons d t ih =>
    have e : cnt (d :: t) m = cntD d m + cnt t m := rfl
    have := h d (by simp)
    rw [e, ih (fun d hd => h d (by simp [hd]))]
    unfold cntD
    rw [if_neg this.1, if_neg this.2]
    rfl
def Cnts (l names : List Int) (ds : List Dg) : Prop := ∀ (p : Nat) (v m : Int), l[p]? = some v → names[p]? = some m → v = 1 + cnt ds m
theorem good_ne {names : List Int} {ds : List Dg} (g : Good names ds) {m : Int} (h : m ∉ names) : cnt ds m = 0 :=
  cnt_zero ds m fun d hd => ⟨fun e => h (e ▸ (g.1 d hd).1), fun e => h (e ▸ (g.1 d hd).2.1)⟩
theorem cut_cnts {k : Nat} {l names : List Int} {i : Nat} {ds : List Dg} (hs : names.Pairwise (· < ·)) (hl : l.length = k + 4) (hn : names.length = k + 4) (hi : ear l = some i) (g : Good (names.eraseIdx i) ds)
    (hw : ∀ p, p < l.length → w64 (l.getD p 0 - 1) = l.getD p 0 - 1) : Cnts (cutL l i) (names.eraseIdx i) ds ↔ Cnts l names (cutD names i :: ds) := by
  obtain ⟨hil, hi1⟩ := ear_lt hi
  obtain ⟨h1, h2, h3, h4, h5, h6⟩ := nb_facts (by omega : 3 ≤ l.length) hil
  obtain ⟨f1, f2, f3, f4, f5⟩ := cutD_facts hs (by omega) (show i < names.length by omega)
  have hcv : ∀ p m, p < l.length → names[p]? = some m → cutV l i p = l.getD p 0 - cntD (cutD names i) m := by
    intro p m hp hm
    rw [f5 p m hm, hn, ← hl]
    unfold cutV
    rw [hw p hp]
    split <;> simp
  constructor
  · intro h p v m hv hm
    have e : cnt (cutD names i :: ds) m = cntD (cutD names i) m + cnt ds m := rfl
    rw [e]
    have hp := getElem?_lt hv
    by_cases hpi : p = i
    · subst hpi
      rw [hi1] at hv
      cases hv
      have := f5 p m hm
      rw [hn, ← hl, if_neg (by omega)] at this
      rw [this, good_ne g]
      · rfl
      · intro hmem
        obtain ⟨q, hq, hqm⟩ := erase_mem hmem
        exact hq (sorted_inj hs hqm hm)
    · have := h (if p < i then p else p - 1) (cutV l i p) m (cutL_get (by omega) hil hp hpi) (by rw [erase_get hpi]; exact hm)
      rw [hcv p m hp hm, getD_some hv] at this
      omega
  · intro h p' v m hv hm
    have hp' := getElem?_lt hv
    rw [cutL_length hil] at hp'
    obtain ⟨p, hpi, hpp, hp⟩ : ∃ p, p ≠ i ∧ (if p < i then p else p - 1) = p' ∧ p < l.length := by
      by_cases hh : p' < i
      · exact ⟨p', by omega, by rw [if_pos hh], by omega⟩
      · exact ⟨p' + 1, by omega, by rw [if_neg (by omega)]; omega, by omega⟩
    rw [← hpp] at hv hm
    rw [cutL_get (by omega) hil hp hpi] at hv
    rw [erase_get hpi] at hm
    cases hv
    rw [hcv p m hp hm]
    have := h p (l.getD p 0) m (by rw [List.getElem?_eq_getElem hp, List.getD_eq_getElem?_getD, List.getElem?_eq_getElem hp]; rfl) hm
    have e : cnt (cutD names i :: ds) m = cntD (cutD names i) m + cnt ds m := rfl
    omega
/-- Cut with a look: the same, and the counts are right. -/
theorem triS_tri : ∀ (k : Nat) (l names : List Int) (ds : List Dg), names.Pairwise (· < ·) → l.length = k + 3 → names.length = k + 3 → (∀ v ∈ l, 1 ≤ v ∧ v ≤ 4611686018427387904) → triS k l names = some ds → tri k l names = some ds ∧ Cnts l names ds
  | 0, l, names, ds, hs, hl, hn, hb, h => by
    unfold triS at h
    refine ⟨by unfold tri; exact h, ?_⟩
    split at h
    · rename_i e
      cases h
      intro p v m hv hm
      have := List.mem_of_getElem? hv
      rw [e] at this
      simp at this
      rw [this]; rfl
    · cases h
  | k + 1, l, names, ds, hs, hl, hn, hb, h => by
    unfold triS at h
    cases he : ear l with
    | none => rw [he] at h; cases h
    | some i =>
      rw [he] at h
      simp only [] at h
      split at h
      · rename_i hok
        obtain ⟨hi, _⟩ := ear_lt he
        obtain ⟨n1, n2, n3, n4, n5, n6⟩ := nb_facts (by omega : 3 ≤ l.length) hi
        obtain ⟨ds', h1, h2⟩ := Option.map_eq_some_iff.1 h
        subst h2
        have hE : (names.eraseIdx i).length = k + 3 := by rw [List.length_eraseIdx, if_pos (by omega)]; omega
        have hgd : ∀ p, p < l.length → 1 ≤ l.getD p 0 ∧ l.getD p 0 ≤ 4611686018427387904 := by
          intro p hp
          rw [List.getD_eq_getElem?_getD, List.getElem?_eq_getElem hp]
          exact hb _ (List.getElem_mem hp)
        have hw : ∀ p, p < l.length → w64 (l.getD p 0 - 1) = l.getD p 0 - 1 := by
          intro p hp
          have := hgd p hp
          exact w64_id (by omega) (by omega)
        have hb' : ∀ v ∈ cutL l i, 1 ≤ v ∧ v ≤ 4611686018427387904 := by
          intro v hv
          obtain ⟨p', hp'⟩ := List.mem_iff_getElem?.1 hv
          have hlt := getElem?_lt hp'
          rw [cutL_length hi] at hlt
          obtain ⟨p, hpi, hpp, hp⟩ : ∃ p, p ≠ i ∧ (if p < i then p else p - 1) = p' ∧ p < l.length := by
            by_cases hh : p' < i
            · exact ⟨p', by omega, by rw [if_pos hh], by omega⟩
            · exact ⟨p' + 1, by omega, by rw [if_neg (by omega)]; omega, by omega⟩
          rw [← hpp, cutL_get (by omega) hi hp hpi] at hp'
          cases hp'
          unfold okC at hok
          have hok := of_decide_eq_true hok
          have := hgd p hp
          unfold cutV
          split
          · rename_i hh
            rcases hh with rfl | rfl
            · refine ⟨hok.1, ?_⟩
              rw [hw _ hp]; omega
            · refine ⟨hok.2, ?_⟩
              rw [hw _ hp]; omega
          · exact this
        obtain ⟨g1, g2⟩ := triS_tri k (cutL l i) (names.eraseIdx i) ds' (hs.sublist (List.eraseIdx_sublist ..)) (by rw [cutL_length hi]; omega) hE hb' h1
        have g := (tri_good k _ _ _ (hs.sublist (List.eraseIdx_sublist ..)) (by rw [cutL_length hi]; omega) hE g1).2
        refine ⟨?_, (cut_cnts hs hl hn he g hw).1 g2⟩
        unfold tri
        rw [he]
        simp only []
        rw [g1]
        rfl
      · cases h
/-- Cut without a look: if the counts are right, no look fails. -/
theorem tri_triS : ∀ (k : Nat) (l names : List Int) (ds : List Dg), names.Pairwise (· < ·) → l.length = k + 3 → names.length = k + 3 → k < 1000000 → tri k l names = some ds → Cnts l names ds → triS k l names = some ds
  | 0, l, names, ds, hs, hl, hn, hk, h, hc => by
    unfold tri at h
    unfold triS
    exact h
  | k + 1, l, names, ds, hs, hl, hn, hk, h, hc => by
    have hlen := (tri_good _ _ _ _ hs hl hn h).1
    unfold tri at h
    unfold triS
    cases he : ear l with
    | none => rw [he] at h; cases h
    | some i =>
      rw [he] at h
      simp only [] at h ⊢
      obtain ⟨hi, _⟩ := ear_lt he
      obtain ⟨n1, n2, n3, n4, n5, n6⟩ := nb_facts (by omega : 3 ≤ l.length) hi
      obtain ⟨ds', h1, h2⟩ := Option.map_eq_some_iff.1 h
      subst h2
      have hE : (names.eraseIdx i).length = k + 3 := by rw [List.length_eraseIdx, if_pos (by omega)]; omega
      have g := (tri_good k _ _ _ (hs.sublist (List.eraseIdx_sublist ..)) (by rw [cutL_length hi]; omega) hE h1).2
      obtain ⟨f1, f2, f3, f4, f5⟩ := cutD_facts hs (by omega) (show i < names.length by omega)
      have hgd : ∀ p (hp : p < l.length), l.getD p 0 = 1 + (cntD (cutD names i) (names[p]'(by omega)) + cnt ds' (names[p]'(by omega))) := by
        intro p hp
        rw [List.getD_eq_getElem?_getD, List.getElem?_eq_getElem hp]
        exact hc p _ _ (List.getElem?_eq_getElem hp) (List.getElem?_eq_getElem (by omega))
      have hw : ∀ p, p < l.length → w64 (l.getD p 0 - 1) = l.getD p 0 - 1 := by
        intro p hp
        have e := hgd p hp
        have c1 := cnt_nn ds' (names[p]'(by omega))
        have c2 : cntD (cutD names i) (names[p]'(by omega)) ≤ 2 ∧ 0 ≤ cntD (cutD names i) (names[p]'(by omega)) := by unfold cntD; split <;> split <;> omega
        rw [List.length_cons] at hlen
        rw [w64_id (by omega) (by omega)]
      have hok : okC l i = true := by
        unfold okC
        refine decide_eq_true ⟨?_, ?_⟩
        · rw [hw _ n1, hgd _ n1, f5 _ _ (List.getElem?_eq_getElem (by omega)), if_pos (.inl (by rw [hn, hl]))]
          have := cnt_nn ds' (names[nbB l.length i]'(by omega))
          omega
        · rw [hw _ n2, hgd _ n2, f5 _ _ (List.getElem?_eq_getElem (by omega)), if_pos (.inr (by rw [hn, hl]))]
          have := cnt_nn ds' (names[nbC l.length i]'(by omega))
          omega
      rw [if_pos hok, tri_triS k _ _ _ (hs.sublist (List.eraseIdx_sublist ..)) (by rw [cutL_length hi]; omega) hE (by omega) h1 ((cut_cnts hs hl hn he g hw).2 hc)]
      rfl



def ltD (d e : Dg) : Bool := decide (d.1 < e.1 ∨ d.1 = e.1 ∧ d.2 < e.2)
def leD (d e : Dg) : Bool := !ltD e d
def cmpD (d e : Dg) : Int := if ltD d e then -1 else if ltD e d then 1 else 0
theorem leD_iff {d e : Dg} : leD d e = true ↔ d.1 < e.1 ∨ d.1 = e.1 ∧ d.2 ≤ e.2 := by
  unfold leD ltD; simp; omega
theorem ltD_iff {d e : Dg} : ltD d e = true ↔ d.1 < e.1 ∨ d.1 = e.1 ∧ d.2 < e.2 := by
  unfold ltD; simp
theorem leD_trans {a b c : Dg} (h1 : leD a b = true) (h2 : leD b c = true) : leD a c = true := by
  rw [leD_iff] at *; omega
theorem leD_anti {a b : Dg} (h1 : leD a b = true) (h2 : leD b a = true) : a = b := by
  rw [leD_iff] at *
  exact Prod.ext (by omega) (by omega)
theorem leD_of_lt {a b : Dg} (h : ltD a b = true) : leD a b = true := by
  rw [leD_iff]; rw [ltD_iff] at h; omega
theorem leD_of_not {a b : Dg} (h : ltD a b = false) : leD b a = true := by unfold leD; rw [h]; rfl
theorem ltD_of {a b : Dg} (h : leD a b = true) (hne : a ≠ b) : ltD a b = true := by
  rw [leD_iff] at h; rw [ltD_iff]
  rcases h with h | ⟨h1, h2⟩
  · exact .inl h
  · refine .inr ⟨h1, ?_⟩
    rcases Int.lt_or_lt_of_ne (fun e => hne (Prod.ext h1 e)) with h | h <;> omega
def SortedD (l : List Dg) : Prop := l.Pairwise fun a b => leD a b = true
theorem sorted_unique {l m : List Dg} (h1 : SortedD l) (h2 : SortedD m) (hp : l.Perm m) : l = m :=
  List.Perm.eq_of_pairwise (fun a b _ _ h1 h2 => leD_anti h1 h2) h1 h2 hp
/-- Put in its place. -/
def insD (d : Dg) (l : List Dg) : List Dg := l.takeWhile (ltD · d) ++ d :: l.dropWhile (ltD · d)
theorem insD_perm (d : Dg) (l : List Dg) : (insD d l).Perm (d :: l) := by
  unfold insD
  have h := List.perm_middle (a := d) (l₁ := l.takeWhile (ltD · d)) (l₂ := l.dropWhile (ltD · d))
  rwa [List.takeWhile_append_dropWhile] at h
theorem insD_sorted (d : Dg) : ∀ {l : List Dg}, SortedD l → SortedD (insD d l)
  | [], _ => by simp [insD, SortedD]
  | x :: t, h => by
    obtain ⟨h1, h2⟩ := List.pairwise_cons.1 h
    unfold insD
    cases hx : ltD x d with
    | true =>
      rw [List.takeWhile_cons, List.dropWhile_cons]
      simp only [hx, if_true, List.cons_append]
      refine List.pairwise_cons.2 ⟨fun y hy => ?_, insD_sorted d h2⟩
      have : y ∈ d :: t := (insD_perm d t).mem_iff.1 hy
      rcases List.mem_cons.1 this with rfl | hy
      · exact leD_of_lt hx
      · exact h1 y hy
    | false =>
      rw [List.takeWhile_cons, List.dropWhile_cons]
      simp only [hx, Bool.false_eq_true, if_false, List.nil_append]
      refine List.pairwise_cons.2 ⟨fun y hy => ?_, h⟩
      rcases List.mem_cons.1 hy with rfl | hy
      · exact leD_of_not hx
      · exact leD_trans (leD_of_not hx) (h1 y hy)
def sortD (l : List Dg) : List Dg := l.foldl (fun out d => insD d out) []
theorem sortD_go : ∀ (l out : List Dg), SortedD out → SortedD (l.foldl (fun out d => insD d out) out) ∧ (l.foldl (fun out d => insD d out) out).Perm (out ++ l)
  | [], out, h => ⟨h, by simp⟩
  | d :: l, out, h => by
    obtain ⟨h1, h2⟩ := sortD_go l (insD d out) (insD_sorted d h)
    refine ⟨h1, h2.trans ?_⟩
    exact ((insD_perm d out).append_right l).trans (by simpa using (List.perm_middle (a := d) (l₁ := out) (l₂ := l)).symm)
theorem sortD_sorted (l : List Dg) : SortedD (sortD l) := (sortD_go l [] (by simp [SortedD])).1
theorem sortD_perm (l : List Dg) : (sortD l).Perm l := by have h := (sortD_go l [] (by simp [SortedD])).2; rwa [List.nil_append] at h
theorem sortD_length (l : List Dg) : (sortD l).length = l.length := (sortD_perm l).length_eq
/-! insertion by swaps -/
def gD (l : List Dg) (p : Nat) : Dg := l.getD p (0, 0)
def swapD (l : List Dg) (j : Nat) : List Dg := (l.set (j + 1) (gD l j)).set j (gD l (j + 1))
def sinkD : Nat → List Dg → List Dg
  | 0, l => l
  | j + 1, l => if ltD (gD l (j + 1)) (gD l j) then sinkD j (swapD l j) else l
theorem gD_eq {l : List Dg} {p : Nat} (h : p < l.length) : gD l p = l[p] := by unfold gD; rw [List.getD_eq_getElem?_getD, List.getElem?_eq_getElem h]; rfl
theorem gD_some {l : List Dg} {p : Nat} (h : p < l.length) : l[p]? = some (gD l p) := by rw [gD_eq h, List.getElem?_eq_getElem h]
theorem swapD_length (l : List Dg) (j : Nat) : (swapD l j).length = l.length := by simp [swapD]
theorem sinkD_length : ∀ (j : Nat) (l : List Dg), (sinkD j l).length = l.length
  | 0, l => rfl
  | j + 1, l => by
    unfold sinkD
    split
    · rw [sinkD_length, swapD_length]
    · rfl
theorem swapD_perm {l : List Dg} {j : Nat} (h : j + 1 < l.length) : (swapD l j).Perm l := by
  unfold swapD
  rw [gD_eq h, gD_eq (by omega)]
  exact List.set_set_perm (by omega) (by omega)
theorem sinkD_perm : ∀ {j : Nat} {l : List Dg}, j < l.length → (sinkD j l).Perm l
  | 0, l, _ => .refl _
  | j + 1, l, h => by
    unfold sinkD
    split
    · exact (sinkD_perm (by rw [swapD_length]; omega)).trans (swapD_perm h)
    · exact .refl _
theorem swapD_get {l : List Dg} {j p : Nat} (h : j + 1 < l.length) : gD (swapD l j) p = if p = j then gD l (j + 1) else if p = j + 1 then gD l j else gD l p := by
  unfold swapD
  conv => lhs; unfold gD
  simp only [List.getD_eq_getElem?_getD]
  by_cases e1 : p = j
  · subst e1
    rw [List.getElem?_set_self (by simp; omega), if_pos rfl]; rfl
  · rw [List.getElem?_set_ne (fun e => e1 e.symm), if_neg e1]
    by_cases e2 : p = j + 1
    · subst e2
      rw [List.getElem?_set_self h, if_pos rfl]; rfl
    · rw [List.getElem?_set_ne (fun e => e2 e.symm), if_neg e2]
      unfold gD; rw [List.getD_eq_getElem?_getD]
def SUp (l : List Dg) (i : Nat) : Prop := ∀ p q, p < q → q ≤ i → leD (gD l p) (gD l q) = true
theorem sinkD_up : ∀ (j : Nat) (l : List Dg) (i : Nat), j < l.length → j ≤ i → (∀ p q, p < q → q ≤ i → p ≠ j → q ≠ j → leD (gD l p) (gD l q) = true) → (∀ q, j < q → q ≤ i → leD (gD l j) (gD l q) = true) → SUp (sinkD j l) i
  | 0, l, i, hl, hi, h1, h2 => by
    intro p q hpq hq
    by_cases e : p = 0
    · subst e; exact h2 q hpq hq
    · exact h1 p q hpq hq e (by omega)
  | j + 1, l, i, hl, hi, h1, h2 => by
    unfold sinkD
    cases hlt : ltD (gD l (j + 1)) (gD l j) with
    | true =>
      simp only [if_true]
      refine sinkD_up j (swapD l j) i (by rw [swapD_length]; omega) (by omega) (fun p q hpq hq hp hq' => ?_) (fun q hq hqi => ?_)
      · rw [swapD_get hl, swapD_get hl, if_neg hp, if_neg hq']
        by_cases e1 : p = j + 1
        · rw [if_pos e1, if_neg (by omega)]
          exact h1 j q (by omega) hq (by omega) (by omega)
        · rw [if_neg e1]
          by_cases e2 : q = j + 1
          · rw [if_pos e2]
            exact h1 p j (by omega) (by omega) e1 (by omega)
          · rw [if_neg e2]
            exact h1 p q hpq hq e1 e2
      · rw [swapD_get hl, swapD_get hl, if_pos rfl, if_neg (by omega)]
        by_cases e2 : q = j + 1
        · rw [if_pos e2]; exact leD_of_lt hlt
        · rw [if_neg e2]; exact h2 q (by omega) hqi
    | false =>
      simp only [Bool.false_eq_true, if_false]
      intro p q hpq hq
      by_cases e1 : p = j + 1
      · subst e1; exact h2 q hpq hq
      · by_cases e2 : q = j + 1
        · subst e2
          have := leD_of_not hlt
          by_cases e3 : p = j
          · subst e3; exact this
          · exact leD_trans (h1 p j (by omega) (by omega) e1 (by omega)) this
        · exact h1 p q hpq hq e1 e2
theorem sinkD_keep : ∀ (j : Nat) (l : List Dg) (p : Nat), j < l.length → j < p → gD (sinkD j l) p = gD l p
  | 0, l, p, _, _ => rfl
  | j + 1, l, p, hl, h => by
    unfold sinkD
    split
    · rw [sinkD_keep j _ p (by rw [swapD_length]; omega) (by omega), swapD_get hl, if_neg (by omega), if_neg (by omega)]
    · rfl
/-- From place i on. -/
def isortD : Nat → Nat → List Dg → List Dg
  | 0, _, l => l
  | n + 1, i, l => isortD n (i + 1) (sinkD i l)
theorem isortD_spec : ∀ (n i : Nat) (l : List Dg), 0 < i → i + n = l.length → SUp l (i - 1) → SUp (isortD n i l) (l.length - 1) ∧ (isortD n i l).Perm l
  | 0, i, l, hi, hl, h => by
    refine ⟨?_, .refl _⟩
    rw [← hl]
    exact h
  | n + 1, i, l, hi, hl, h => by
    have hs := sinkD_up i l i (by omega) (Nat.le_refl _) (fun p q hpq hq hp hq' => h p q hpq (by omega)) (fun q h1 h2 => by omega)
    obtain ⟨h1, h2⟩ := isortD_spec n (i + 1) (sinkD i l) (by omega) (by rw [sinkD_length]; omega) (by simpa using hs)
    rw [sinkD_length] at h1
    exact ⟨h1, h2.trans (sinkD_perm (by omega))⟩
theorem isortD_eq (l : List Dg) : isortD (l.length - 1) 1 l = sortD l := by
  by_cases h0 : l.length = 0
  · have : l = [] := List.eq_nil_of_length_eq_zero h0
    subst this; rfl
  obtain ⟨h1, h2⟩ := isortD_spec (l.length - 1) 1 l (by omega) (by omega) (fun p q h1 h2 => by omega)
  refine sorted_unique ?_ (sortD_sorted l) (h2.trans (sortD_perm l).symm)
  unfold SortedD
  rw [List.pairwise_iff_getElem]
  intro p q hp hq hpq
  have hlen := h2.length_eq
  have := h1 p q hpq (by omega)
  rwa [gD_eq hp, gD_eq hq] at this
theorem take_while_idx (d : Dg) : ∀ (l : List Dg), ∃ k, k ≤ l.length ∧ l.takeWhile (ltD · d) = l.take k ∧ l.dropWhile (ltD · d) = l.drop k ∧ (∀ p, p < k → ltD (gD l p) d = true) ∧ (k < l.length → ltD (gD l k) d = false)
  | [] => ⟨0, by simp, by simp, by simp, by simp, by simp⟩
  | x :: t => by
    cases hx : ltD x d with
    | false => exact ⟨0, by simp, by simp [hx], by simp [hx], by simp, by simp [gD, hx]⟩
    | true =>
      obtain ⟨k, h1, h2, h3, h4, h5⟩ := take_while_idx d t
      refine ⟨k + 1, by simpa using h1, by simp [hx, h2], by simp [hx, h3], fun p hp => ?_, fun hk => ?_⟩
      · cases p with
        | zero => simpa [gD] using hx
        | succ p => simpa [gD] using h4 p (by omega)
      · simpa [gD] using h5 (by simpa using hk)
def inDg (n : Int) (d : Dg) : Bool := inB 0 (n - 1) d.1 && inB 0 (n - 1) d.2 && decide (d.2 - d.1 > 1) && !(d.1 == 0 && d.2 == n - 1)
/-- What is wrong at a place of a list of diagonals. -/
def badT (n : Int) (ds : List Dg) (k : Nat) : Bool := !inDg n (gD ds k) || (decide (0 < k) && !ltD (gD ds (k - 1)) (gD ds k)) || (ds.take k).any (crossD (gD ds k))
def isTri (n : Int) (ds : List Dg) : Bool := inB 3 12 n && decide ((ds.length : Int) = n - 3) && !(List.range ds.length).any (badT n ds)
theorem isTri_iff (n : Int) (ds : List Dg) : isTri n ds = true ↔ (3 ≤ n ∧ n ≤ 12) ∧ (ds.length : Int) = n - 3 ∧ (∀ d ∈ ds, inDg n d = true) ∧ ds.Pairwise (fun d e => ltD d e = true ∧ crossD e d = false) := by
  unfold isTri
  simp only [Bool.and_eq_true, inB_iff, decide_eq_true_eq, Bool.not_eq_true', and_assoc]
  refine and_congr_right fun h1 => and_congr_right fun h2 => and_congr_right fun h3 => ?_
  rw [List.any_eq_false]
  simp only [List.mem_range, badT, Bool.or_eq_true, Bool.not_eq_true', Bool.and_eq_true, decide_eq_true_eq, not_or, not_and, Bool.not_eq_false, Bool.not_eq_true]
  have ltT : ∀ {a b c : Dg}, ltD a b = true → ltD b c = true → ltD a c = true := by
    intro a b c h1 h2; rw [ltD_iff] at *; omega
  constructor
  · intro h
    refine ⟨fun d hd => ?_, ?_⟩
    · obtain ⟨k, hk, e⟩ := List.getElem_of_mem hd
      have := (h k hk).1.1
      rwa [gD_eq hk, e] at this
    · have up : ∀ m p, p + m + 1 < ds.length → ltD (gD ds p) (gD ds (p + m + 1)) = true := by
        intro m
        induction m with
        | zero => intro p hp; have := (h (p + 1) hp).1.2 (by omega); simpa using this
        | succ m ih =>
          intro p hp
          have := (h (p + m + 1 + 1) (by omega)).1.2 (by omega)
          rw [show p + m + 1 + 1 - 1 = p + m + 1 by omega] at this
          have e2 := ltT (ih p (by omega)) this
          rwa [show p + (m + 1) + 1 = p + m + 1 + 1 by omega]
      rw [List.pairwise_iff_getElem]
      intro p q hp hq hpq
      have h2' := up (q - p - 1) p (by omega)
      rw [show p + (q - p - 1) + 1 = q by omega, gD_eq hp, gD_eq hq] at h2'
      refine ⟨h2', ?_⟩
      have := (h q hq).2
      rw [List.any_eq_false] at this
      have := this ds[p] (List.mem_take_iff_getElem.2 ⟨p, by omega, rfl⟩)
      rw [gD_eq hq] at this
      simpa using this
  · rintro ⟨g1, g2⟩ k hk
    rw [List.pairwise_iff_getElem] at g2
    refine ⟨⟨by rw [gD_eq hk]; exact g1 _ (List.getElem_mem hk), fun hk0 => ?_⟩, ?_⟩
    · rw [gD_eq hk, gD_eq (show k - 1 < ds.length by omega)]
      exact (g2 (k - 1) k (by omega) hk (by omega)).1
    · rw [List.any_eq_false]
      intro e he
      obtain ⟨p, hp, e'⟩ := List.mem_take_iff_getElem.1 he
      have := (g2 p k (by omega) hk (by omega)).2
      rw [e', ← gD_eq hk] at this
      simpa using this
theorem crossD_comm (d e : Dg) : crossD d e = crossD e d := by
  unfold crossD
  exact Bool.or_comm _ _
/-- A good list of diagonals, sorted, is a triangulation. -/
theorem good_isTri {n : Nat} {names : List Int} {ds : List Dg} (hn : 3 ≤ n ∧ n ≤ 12) (hnm : ∀ m ∈ names, 0 ≤ m ∧ m < n) (g : Good names ds) (hl : ds.length = n - 3) : isTri n (sortD ds) = true := by
  rw [isTri_iff]
  refine ⟨by omega, by rw [sortD_length]; omega, fun d hd => ?_, ?_⟩
  · obtain ⟨q1, q2, q3, ⟨m, q4, q5⟩, ⟨m', q6, q7⟩⟩ := g.1 d ((sortD_perm ds).mem_iff.1 hd)
    have a1 := hnm _ q1
    have a2 := hnm _ q2
    have a3 := hnm _ q6
    have i1 : inB 0 ((n : Int) - 1) d.1 = true := inB_iff.2 (by omega)
    have i2 : inB 0 ((n : Int) - 1) d.2 = true := inB_iff.2 (by omega)
    unfold inDg
    rw [i1, i2]
    simp
    omega
  · have h1 : (sortD ds).Pairwise Apart := (List.Perm.pairwise_iff (fun {x y} h => ⟨h.1.symm, by rw [crossD_comm]; exact h.2⟩) (sortD_perm ds)).2 g.2
    have h2 := sortD_sorted ds
    exact (List.Pairwise.and h2 h1).imp fun {a b} h => ⟨ltD_of h.1 h.2.1, by rw [crossD_comm]; exact h.2.2⟩
/-- Counted at two corners. -/
def bumpD (out : List Int) (d : Dg) : List Int := ((out.set d.1.toNat (out.getD d.1.toNat 0 + 1))).set d.2.toNat (out.getD d.2.toNat 0 + 1)
theorem bumpD_get {out : List Int} {d : Dg} {p : Nat} (h1 : 0 ≤ d.1) (h2 : d.1 < d.2) (h3 : d.2 < out.length) (hp : p < out.length) : (bumpD out d).getD p 0 = out.getD p 0 + cntD d p := by
  unfold bumpD cntD
  simp only [List.getD_eq_getElem?_getD]
  by_cases e2 : d.2.toNat = p
  · subst e2
    rw [List.getElem?_set_self (by simp; omega), if_neg (by omega), if_pos (by omega)]
    simp
  · rw [List.getElem?_set_ne e2]
    by_cases e1 : d.1.toNat = p
    · subst e1
      rw [List.getElem?_set_self (by omega), if_pos (by omega), if_neg (by omega)]
      simp
    · rw [List.getElem?_set_ne e1, if_neg (by omega), if_neg (by omega)]
      simp
theorem bumpD_length (out : List Int) (d : Dg) : (bumpD out d).length = out.length := by simp [bumpD]
/-- The numbers of a triangulation's triangles at the corners. -/
def quid (n : Nat) (ds : List Dg) : List Int := (List.range n).map fun (p : Nat) => 1 + cnt ds (p : Int)
theorem cnt_cons (d : Dg) (t : List Dg) (m : Int) : cnt (d :: t) m = cntD d m + cnt t m := rfl
theorem cnt_perm {ds es : List Dg} (h : ds.Perm es) (m : Int) : cnt ds m = cnt es m := by
  induction h with
  | nil => rfl
  | cons x _ ih => rw [cnt_cons, cnt_cons, ih]
  | swap x y l => simp only [cnt_cons]; omega
  | trans _ _ h1 h2 => rw [h1, h2]
theorem bump_fold (n : Nat) : ∀ (ds : List Dg) (out : List Int), out.length = n → (∀ d ∈ ds, 0 ≤ d.1 ∧ d.1 < d.2 ∧ d.2 < (n : Int)) → (ds.foldl bumpD out).length = n ∧ ∀ p, p < n → (ds.foldl bumpD out).getD p 0 = out.getD p 0 + cnt ds p
  | [], out, hl, h => ⟨hl, fun p hp => by simp [cnt]⟩
  | d :: t, out, hl, h => by
    have hd := h d (by simp)
    obtain ⟨h1, h2⟩ := bump_fold n t (bumpD out d) (by rw [bumpD_length, hl]) (fun e he => h e (by simp [he]))
    refine ⟨h1, fun p hp => ?_⟩
    rw [List.foldl_cons, h2 p hp, bumpD_get hd.1 hd.2.1 (by omega) (by omega), cnt_cons]
    omega
def nameL (n : Nat) : List Int := (List.range n).map fun (k : Nat) => (k : Int)
theorem nameL_length (n : Nat) : (nameL n).length = n := by simp [nameL]
theorem nameL_succ (n : Nat) : nameL (n + 1) = nameL n ++ [(n : Int)] := by simp [nameL, List.range_succ]
theorem nameL_get {n p : Nat} (h : p < n) : (nameL n)[p]? = some (p : Int) := by simp [nameL, h]
theorem nameL_sorted (n : Nat) : (nameL n).Pairwise (· < ·) := by
  rw [List.pairwise_iff_getElem]
  intro i j hi hj hij
  simp [nameL]
  omega
theorem nameL_mem {n : Nat} {m : Int} (h : m ∈ nameL n) : 0 ≤ m ∧ m < n := by
  obtain ⟨p, hp, e⟩ := List.mem_map.1 h
  have := List.mem_range.1 hp
  subst e
  omega
/-- The list's counts are the diagonals'. -/
theorem cnts_quid {l : List Int} {ds : List Dg} : Cnts l (nameL l.length) ds ↔ quid l.length ds = l := by
  constructor
  · intro h
    refine List.ext_getElem (by simp [quid]) fun p hp hp' => ?_
    have := h p l[p] (p : Int) (List.getElem?_eq_getElem hp') (nameL_get hp')
    rw [this]
    simp [quid]
  · intro h p v m hv hm
    have hp := getElem?_lt hv
    rw [nameL_get hp] at hm
    cases hm
    rw [← h] at hv
    simp only [quid, List.getElem?_map, List.getElem?_range hp, Option.map_some, Option.some.injEq] at hv
    exact hv.symm
/-- The triangulation with a quiddity. -/
def trOf (l : List Int) : Option (List Dg) :=
  if inB 3 12 l.length then
    match tri (l.length - 3) l (nameL l.length) with
    | some ds => if quid l.length ds = l then some (sortD ds) else none
    | none => none
  else none
theorem trOf_spec (l : List Int) (h : l.all (inB 1 12) = true) (hn : inB 3 12 l.length = true) : (triS (l.length - 3) l (nameL l.length)).map sortD = trOf l := by
  rw [inB_iff] at hn
  have hb : ∀ v ∈ l, 1 ≤ v ∧ v ≤ 4611686018427387904 := fun v hv => by
    have := inB_iff.1 (List.all_eq_true.1 h v hv)
    omega
  unfold trOf
  rw [if_pos (inB_iff.2 hn)]
  have hl : l.length = l.length - 3 + 3 := by omega
  cases hS : triS (l.length - 3) l (nameL l.length) with
  | some ds =>
    obtain ⟨g1, g2⟩ := triS_tri _ _ _ _ (nameL_sorted _) hl (by rw [nameL_length]; omega) hb hS
    rw [g1]
    simp only []
    rw [if_pos (cnts_quid.1 g2)]
    rfl
  | none =>
    cases hT : tri (l.length - 3) l (nameL l.length) with
    | none => rfl
    | some ds =>
      simp only []
      split
      · rename_i hq
        have := tri_triS _ _ _ _ (nameL_sorted _) hl (by rw [nameL_length]; omega) (by omega) hT (cnts_quid.2 hq)
        rw [this] at hS
        cases hS
      · rfl
theorem cnt_le : ∀ {ds : List Dg} {m : Int}, (∀ d ∈ ds, d.1 < d.2) → cnt ds m ≤ ds.length
  | [], m, h => by simp [cnt]
  | d :: t, m, h => by
    have := cnt_le (ds := t) (m := m) fun d hd => h d (by simp [hd])
    rw [cnt_cons, List.length_cons]
    have q := h d (by simp)
    have : cntD d m ≤ 1 := by unfold cntD; split <;> split <;> omega
    omega
theorem trOf_bad (l : List Int) (h : l.all (inB 1 12) = false) : trOf l = none := by
  unfold trOf
  split
  · rename_i hn
    rw [inB_iff] at hn
    split
    · rename_i ds hT
      rw [if_neg]
      intro hq
      have hds := (tri_good _ _ _ _ (nameL_sorted _) (by omega) (by rw [nameL_length]; omega) hT)
      rw [List.all_eq_false] at h
      obtain ⟨v, hv, hb⟩ := h
      rw [← hq] at hv
      obtain ⟨p, hp, e⟩ := List.mem_map.1 hv
      have c1 := cnt_nn ds p
      have c2 : cnt ds p ≤ ds.length := cnt_le fun d hd => (hds.2.1 d hd).2.2.1
      apply hb
      rw [inB_iff, ← e]
      omega
    · rfl
  · rfl
def triW : Nat → List Int → List Int → Option (List Int × List Dg)
  | 0, l, _ => some (l, [])
  | k + 1, l, names => match ear l with
    | none => none
    | some i => (triW k (cutL l i) (names.eraseIdx i)).map fun r => (r.1, cutD names i :: r.2)
def triSW : Nat → List Int → List Int → Option (List Int × List Dg)
  | 0, l, _ => some (l, [])
  | k + 1, l, names => match ear l with
    | none => none
    | some i => if okC l i then (triSW k (cutL l i) (names.eraseIdx i)).map fun r => (r.1, cutD names i :: r.2) else none
theorem tri_W : ∀ (k : Nat) (l names : List Int), tri k l names = (triW k l names).bind fun r => if r.1 = [1, 1, 1] then some r.2 else none
  | 0, l, names => by simp [tri, triW]
  | k + 1, l, names => by
    unfold tri triW
    cases ear l with
    | none => rfl
    | some i =>
      simp only []
      rw [tri_W k]
      cases triW k (cutL l i) (names.eraseIdx i) with
      | none => rfl
      | some r => by_cases h : r.1 = [1, 1, 1] <;> simp [h]
theorem triS_W : ∀ (k : Nat) (l names : List Int), triS k l names = (triSW k l names).bind fun r => if r.1 = [1, 1, 1] then some r.2 else none
  | 0, l, names => by simp [triS, triSW]
  | k + 1, l, names => by
    unfold triS triSW
    cases ear l with
    | none => rfl
    | some i =>
      simp only []
      split
      · rw [triS_W k]
        cases triSW k (cutL l i) (names.eraseIdx i) with
        | none => rfl
        | some r => by_cases h : r.1 = [1, 1, 1] <;> simp [h]
      · rfl
theorem triW_len : ∀ (k : Nat) (l names : List Int) (r : List Int × List Dg), l.length = k + 3 → triW k l names = some r → r.1.length = 3 ∧ r.2.length = k
  | 0, l, names, r, hl, h => by
    unfold triW at h
    cases h
    exact ⟨hl, rfl⟩
  | k + 1, l, names, r, hl, h => by
    unfold triW at h
    cases he : ear l with
    | none => rw [he] at h; cases h
    | some i =>
      rw [he] at h
      obtain ⟨r', h1, h2⟩ := Option.map_eq_some_iff.1 h
      subst h2
      obtain ⟨g1, g2⟩ := triW_len k _ _ r' (by rw [cutL_length (ear_lt he).1]; omega) h1
      exact ⟨g1, by simp [g2]⟩
theorem triSW_len : ∀ (k : Nat) (l names : List Int) (r : List Int × List Dg), l.length = k + 3 → triSW k l names = some r → r.1.length = 3 ∧ r.2.length = k
  | 0, l, names, r, hl, h => by
    unfold triSW at h
    cases h
    exact ⟨hl, rfl⟩
  | k + 1, l, names, r, hl, h => by
    unfold triSW at h
    cases he : ear l with
    | none => rw [he] at h; cases h
    | some i =>
      rw [he] at h
      simp only [] at h
      split at h
      · obtain ⟨r', h1, h2⟩ := Option.map_eq_some_iff.1 h
        subst h2
        obtain ⟨g1, g2⟩ := triSW_len k _ _ r' (by rw [cutL_length (ear_lt he).1]; omega) h1
        exact ⟨g1, by simp [g2]⟩
      · cases h
theorem nb_tmod {n i : Nat} (hn : 3 ≤ n) (hn2 : n < 1000000) (hi : i < n) :
    Int.tmod (w64 ((w64 ((i : Int) + (n : Int))) - 1)) (n : Int) = (nbB n i : Int) ∧ Int.tmod (w64 ((i : Int) + 1)) (n : Int) = (nbC n i : Int) := by
  rw [w64_id (z := (i : Int) + n) (by omega) (by omega), w64_id (by omega) (by omega), w64_id (by omega) (by omega)]
  rw [Int.tmod_eq_emod_of_nonneg (by omega), Int.tmod_eq_emod_of_nonneg (by omega)]
  unfold nbB nbC
  rw [show (i : Int) + n - 1 = ((i + n - 1 : Nat) : Int) by omega, show (i : Int) + 1 = ((i + 1 : Nat) : Int) by omega]
  exact ⟨(Int.natCast_emod _ _).symm, (Int.natCast_emod _ _).symm⟩
theorem set_getD {l : List Int} {p : Nat} (h : p < l.length) : l[p]? = some (l.getD p 0) := by rw [List.getD_eq_getElem?_getD, List.getElem?_eq_getElem h]; rfl
theorem take_drop_erase {X : Type} (l : List X) (i : Nat) : l.take i ++ l.drop (i + 1) = l.eraseIdx i := (List.eraseIdx_eq_take_drop_succ l i).symm


def i_compareDiagonals_sh : FSh := ⟨[(.ag [(.si .i64), (.si .i64)]), (.ag [(.si .i64), (.si .i64)])], []⟩

def i_compareDiagonals_fo : List FO := [⟨[(.one (.si .i64))], []⟩]
noncomputable def i_compareDiagonals_t : ((Int × Int) × (Int × Int)) → T Int := fun ((a_0, a_1), (b_0, b_1)) =>
  (.sub (cmp_Compare_int (a_0, b_0)) fun z0 =>
  (.sub (cmp_Compare_int (a_1, b_1)) fun z1 =>
  (.test (decide (2 ≤ (List.length (List.set (List.set (List.replicate 2 (0 : Int)) 0 z0) 1 z1))))
  (.sub (cmp_Or_int (win (List.set (List.set (List.replicate 2 (0 : Int)) 0 z0) 1 z1) 0 2)) fun z2 =>
   (.ret z2))
  .fail)))
noncomputable def i_compareDiagonals (v : ((Int × Int) × (Int × Int))) : Option Int := (i_compareDiagonals_t v).run
noncomputable def i_compareDiagonals_E : TEnv := ((E0.add1 n_cmp_Compare_int cmp_Compare_int_sh cmp_Compare_int_fo cmp_Compare_int).add1 n_cmp_Or_int cmp_Or_int_sh cmp_Or_int_fo cmp_Or_int)
theorem i_compareDiagonals_Eok : (i_compareDiagonals_E).OK := ((E0ok.add1 cmp_Compare_int_ok).add1 cmp_Or_int_ok)
noncomputable def i_compareDiagonals_told : Nat → Option SealT := fun id => none
theorem i_compareDiagonals_ok : FOK Try.prog n_i_compareDiagonals i_compareDiagonals_sh i_compareDiagonals_fo i_compareDiagonals :=
  fn_ok (E := i_compareDiagonals_E) (i_compareDiagonals_Eok) (told := i_compareDiagonals_told) (fl := []) (c := bodyOf fn_i_compareDiagonals) (s := i_compareDiagonals_sh) (l := i_compareDiagonals_fo) (tree := i_compareDiagonals_t) fnat_i_compareDiagonals (by kernel_rfl) (by kernel_rfl) (by kernel_rfl) (loopsOK_of (ls := []) (by kernel_rfl) trivial) (fun v => by kernel_rfl)

theorem i_compareDiagonals_eq (d e : Dg) : i_compareDiagonals (d, e) = some (cmpD d e) := by
  obtain ⟨a, b⟩ := d
  obtain ⟨c, f⟩ := e
  have h2 : win (List.set (List.set (List.replicate 2 (0 : Int)) 0 (if a < c then -1 else if c < a then 1 else 0)) 1 (if b < f then -1 else if f < b then 1 else 0)) 0 2 = [if a < c then -1 else if c < a then 1 else 0, if b < f then -1 else if f < b then 1 else 0] := rfl
  simp only [i_compareDiagonals, i_compareDiagonals_t, T.run, cmp_Compare_int_eq, Option.bind_some, h2, cmp_Or_int_two]
  simp only [List.length_set, List.length_replicate, Nat.le_refl, decide_true, if_true]
  congr 1
  unfold cmpD ltD
  simp only [decide_eq_true_eq]
  split <;> split <;> (try split) <;> (try split) <;> omega
theorem cmpD_lt (d e : Dg) : decide (cmpD d e < 0) = ltD d e := by
  unfold cmpD
  cases ltD d e <;> simp
  split <;> omega
theorem cmpD_ge (d e : Dg) : decide (cmpD d e ≥ 0) = !ltD d e := by
  unfold cmpD
  cases ltD d e <;> simp
  split <;> omega


def slices_insertionSortCmpFunc_Diagonal__i_compareDiagonals_sh : FSh := ⟨[(.one (.rw 0 0)), (.one (.si .i64)), (.one (.si .i64)), (.one (.fn n_i_compareDiagonals))], [(.row 0 (.pair (.int .i64) (.int .i64)))]⟩

def slices_insertionSortCmpFunc_Diagonal__i_compareDiagonals_L4_sh : LSh := ⟨(fun ex => match ex with | .norm => [(0, none), (1, none), (2, none), (3, none), (8, none), (9, none)] | .exit i => if i = 2 then [(0, none), (1, none), (2, none), (3, none), (8, none)] else if i = 1 then [(0, none), (1, none), (2, none), (3, none), (8, none)] else if i = 0 then [] else [] | .ret => []), [(0, (.one (.rw 0 0))), (1, (.one (.si .i64))), (2, (.one (.si .i64))), (3, (.one (.fn n_i_compareDiagonals))), (8, (.one (.si .i64))), (9, (.one (.si .i64)))], [(.row 0 (.pair (.int .i64) (.int .i64)))], [⟨(.exit 2), [(0, (.one (.rw 0 0))), (1, (.one (.si .i64))), (2, (.one (.si .i64))), (3, (.one (.fn n_i_compareDiagonals))), (8, (.one (.si .i64)))], [(.row 0 (.pair (.int .i64) (.int .i64)))]⟩], [], []⟩
noncomputable def slices_insertionSortCmpFunc_Diagonal__i_compareDiagonals_L4_step : ((Unit × Int × Int × Unit × Int × Int) × List ((Int × Int))) → T (((Unit × Int × Int × Unit × Int × Int) × List ((Int × Int))) ⊕ ((Unit × Int × Int × Unit × Int) × List ((Int × Int)))) := fun (((), a, b, (), i, j), data) =>
  (.test (decide (j > a))
  (.test (decide ((0 ≤ j) ∧ (j < ((List.length data) : Int))))
   (.sub (data[(0 + (Int.toNat j))]?) fun z0 =>
    (.test (decide ((0 ≤ (w64 (j - 1))) ∧ ((w64 (j - 1)) < ((List.length data) : Int))))
    (.sub (data[(0 + (Int.toNat (w64 (j - 1))))]?) fun z1 =>
     (.sub (i_compareDiagonals ((z0.1, z0.2), (z1.1, z1.2))) fun z2 =>
     (.test (decide (z2 < 0))
     (.test (decide ((0 ≤ (w64 (j - 1))) ∧ ((w64 (j - 1)) < ((List.length data) : Int))))
      (.sub (data[(0 + (Int.toNat (w64 (j - 1))))]?) fun z3 =>
       (.test (decide ((0 ≤ j) ∧ (j < ((List.length data) : Int))))
       (.sub (data[(0 + (Int.toNat j))]?) fun z4 =>
        (.test (decide ((0 ≤ j) ∧ (j < ((List.length data) : Int))))
        (.sub (data[(0 + (Int.toNat j))]?) fun z5 =>
         (.test (decide ((0 ≤ (w64 (j - 1))) ∧ ((w64 (j - 1)) < ((List.length data) : Int))))
         (.sub ((List.set data (0 + (Int.toNat j)) (z3.1, z3.2))[(0 + (Int.toNat (w64 (j - 1))))]?) fun z6 =>
          (.test (decide ((0 = 0) ∧ ((List.length data) = (List.length (List.set (List.set data (0 + (Int.toNat j)) (z3.1, z3.2)) (0 + (Int.toNat (w64 (j - 1)))) (z4.1, z4.2))))))
          (.ret (Sum.inl (((), (a, (b, ((), (i, (w64 (j - 1))))))), (List.set (List.set data (0 + (Int.toNat j)) (z3.1, z3.2)) (0 + (Int.toNat (w64 (j - 1)))) (z4.1, z4.2)))))
          .fail))
         .fail))
        .fail))
       .fail))
      .fail)
     (.test (decide ((0 = 0) ∧ ((List.length data) = (List.length data))))
      (.ret (Sum.inr (((), (a, (b, ((), i)))), data)))
      .fail))))
    .fail))
   .fail)
  (.test (decide ((0 = 0) ∧ ((List.length data) = (List.length data))))
   (.ret (Sum.inr (((), (a, (b, ((), i)))), data)))
   .fail))
noncomputable def slices_insertionSortCmpFunc_Diagonal__i_compareDiagonals_L4 (v : ((Unit × Int × Int × Unit × Int × Int) × List ((Int × Int)))) : Option ((Unit × Int × Int × Unit × Int) × List ((Int × Int))) := loopO (fun v => (slices_insertionSortCmpFunc_Diagonal__i_compareDiagonals_L4_step v).run) v

def slices_insertionSortCmpFunc_Diagonal__i_compareDiagonals_L1_sh : LSh := ⟨(fun ex => match ex with | .norm => [(0, none), (1, none), (2, none), (3, none), (8, none)] | .exit i => if i = 0 then [] else [] | .ret => []), [(0, (.one (.rw 0 0))), (1, (.one (.si .i64))), (2, (.one (.si .i64))), (3, (.one (.fn n_i_compareDiagonals))), (8, (.one (.si .i64)))], [(.row 0 (.pair (.int .i64) (.int .i64)))], [⟨(.exit 0), [], [(.row 0 (.pair (.int .i64) (.int .i64)))]⟩], [], []⟩
noncomputable def slices_insertionSortCmpFunc_Diagonal__i_compareDiagonals_L1_step : ((Unit × Int × Int × Unit × Int) × List ((Int × Int))) → T (((Unit × Int × Int × Unit × Int) × List ((Int × Int))) ⊕ (Unit × List ((Int × Int)))) := fun (((), a, b, (), i), data) =>
  (.test (decide (i < b))
  (.test (decide ((0 = 0) ∧ ((List.length data) = (List.length data))))
   (.sub (slices_insertionSortCmpFunc_Diagonal__i_compareDiagonals_L4 (((), (a, (b, ((), (i, i))))), data)) fun z0 =>
    (.test (decide ((0 = 0) ∧ ((List.length z0.2) = (List.length z0.2))))
    (.ret (Sum.inl (((), (z0.1.2.1, (z0.1.2.2.1, ((), (w64 (z0.1.2.2.2.2 + 1)))))), z0.2)))
    .fail))
   .fail)
  (.ret (Sum.inr ((), data))))
noncomputable def slices_insertionSortCmpFunc_Diagonal__i_compareDiagonals_L1 (v : ((Unit × Int × Int × Unit × Int) × List ((Int × Int)))) : Option (Unit × List ((Int × Int))) := loopO (fun v => (slices_insertionSortCmpFunc_Diagonal__i_compareDiagonals_L1_step v).run) v

def slices_insertionSortCmpFunc_Diagonal__i_compareDiagonals_fo : List FO := [⟨[], [(.row 0 (.pair (.int .i64) (.int .i64)))]⟩]
noncomputable def slices_insertionSortCmpFunc_Diagonal__i_compareDiagonals_t : ((Unit × Int × Int × Unit) × List ((Int × Int))) → T (Unit × List ((Int × Int))) := fun (((), a, b, ()), data) =>
  (.test (decide ((0 = 0) ∧ ((List.length data) = (List.length data))))
  (.sub (slices_insertionSortCmpFunc_Diagonal__i_compareDiagonals_L1 (((), (a, (b, ((), (w64 (a + 1)))))), data)) fun z0 =>
   (.ret ((), z0.2)))
  .fail)
noncomputable def slices_insertionSortCmpFunc_Diagonal__i_compareDiagonals (v : ((Unit × Int × Int × Unit) × List ((Int × Int)))) : Option (Unit × List ((Int × Int))) := (slices_insertionSortCmpFunc_Diagonal__i_compareDiagonals_t v).run
noncomputable def slices_insertionSortCmpFunc_Diagonal__i_compareDiagonals_E : TEnv := (E0.add1 n_i_compareDiagonals i_compareDiagonals_sh i_compareDiagonals_fo i_compareDiagonals)
theorem slices_insertionSortCmpFunc_Diagonal__i_compareDiagonals_Eok : (slices_insertionSortCmpFunc_Diagonal__i_compareDiagonals_E).OK := (E0ok.add1 i_compareDiagonals_ok)
noncomputable def slices_insertionSortCmpFunc_Diagonal__i_compareDiagonals_told : Nat → Option SealT := fun id => if id = 4 then some (LSh.told slices_insertionSortCmpFunc_Diagonal__i_compareDiagonals_L4_sh 1 (slices_insertionSortCmpFunc_Diagonal__i_compareDiagonals_L4_step)) else if id = 1 then some (LSh.told slices_insertionSortCmpFunc_Diagonal__i_compareDiagonals_L1_sh 1 (slices_insertionSortCmpFunc_Diagonal__i_compareDiagonals_L1_step)) else none
theorem slices_insertionSortCmpFunc_Diagonal__i_compareDiagonals_L4_ok : ToldOK Try.prog 1 (loopAt (bodyOf fn_slices_insertionSortCmpFunc_Diagonal) [0, 0]) (LSh.told slices_insertionSortCmpFunc_Diagonal__i_compareDiagonals_L4_sh 1 (slices_insertionSortCmpFunc_Diagonal__i_compareDiagonals_L4_step)) :=
  loop_ok (E := slices_insertionSortCmpFunc_Diagonal__i_compareDiagonals_E) (slices_insertionSortCmpFunc_Diagonal__i_compareDiagonals_Eok) (told := slices_insertionSortCmpFunc_Diagonal__i_compareDiagonals_told) (l := slices_insertionSortCmpFunc_Diagonal__i_compareDiagonals_L4_sh) (step := slices_insertionSortCmpFunc_Diagonal__i_compareDiagonals_L4_step) (loopsOK_of (ls := []) (by kernel_rfl) trivial) (by kernel_rfl) (fun v => by kernel_rfl)
theorem slices_insertionSortCmpFunc_Diagonal__i_compareDiagonals_L1_ok : ToldOK Try.prog 1 (loopAt (bodyOf fn_slices_insertionSortCmpFunc_Diagonal) [0]) (LSh.told slices_insertionSortCmpFunc_Diagonal__i_compareDiagonals_L1_sh 1 (slices_insertionSortCmpFunc_Diagonal__i_compareDiagonals_L1_step)) :=
  loop_ok (E := slices_insertionSortCmpFunc_Diagonal__i_compareDiagonals_E) (slices_insertionSortCmpFunc_Diagonal__i_compareDiagonals_Eok) (told := slices_insertionSortCmpFunc_Diagonal__i_compareDiagonals_told) (l := slices_insertionSortCmpFunc_Diagonal__i_compareDiagonals_L1_sh) (step := slices_insertionSortCmpFunc_Diagonal__i_compareDiagonals_L1_step) (loopsOK_of (ls := [loopAt (bodyOf fn_slices_insertionSortCmpFunc_Diagonal) [0, 0]]) (by kernel_rfl) ⟨.inr ⟨_, by kernel_rfl, slices_insertionSortCmpFunc_Diagonal__i_compareDiagonals_L4_ok⟩, trivial⟩) (by kernel_rfl) (fun v => by kernel_rfl)
theorem slices_insertionSortCmpFunc_Diagonal__i_compareDiagonals_ok : FOK Try.prog n_slices_insertionSortCmpFunc_Diagonal slices_insertionSortCmpFunc_Diagonal__i_compareDiagonals_sh slices_insertionSortCmpFunc_Diagonal__i_compareDiagonals_fo slices_insertionSortCmpFunc_Diagonal__i_compareDiagonals :=
  fn_ok (E := slices_insertionSortCmpFunc_Diagonal__i_compareDiagonals_E) (slices_insertionSortCmpFunc_Diagonal__i_compareDiagonals_Eok) (told := slices_insertionSortCmpFunc_Diagonal__i_compareDiagonals_told) (fl := []) (c := bodyOf fn_slices_insertionSortCmpFunc_Diagonal) (s := slices_insertionSortCmpFunc_Diagonal__i_compareDiagonals_sh) (l := slices_insertionSortCmpFunc_Diagonal__i_compareDiagonals_fo) (tree := slices_insertionSortCmpFunc_Diagonal__i_compareDiagonals_t) fnat_slices_insertionSortCmpFunc_Diagonal (by kernel_rfl) (by kernel_rfl) (by kernel_rfl) (loopsOK_of (ls := [loopAt (bodyOf fn_slices_insertionSortCmpFunc_Diagonal) [0]]) (by kernel_rfl) ⟨.inr ⟨_, by kernel_rfl, slices_insertionSortCmpFunc_Diagonal__i_compareDiagonals_L1_ok⟩, trivial⟩) (fun v => by kernel_rfl)

theorem slices_insertionSortCmpFunc_Diagonal__i_compareDiagonals_sink (b i : Int) : ∀ (j : Nat) (l : List Dg), j < l.length → l.length < 1000000 →
    slices_insertionSortCmpFunc_Diagonal__i_compareDiagonals_L4 (((), ((0 : Int), (b, ((), (i, (j : Int)))))), l) = some (((), ((0 : Int), (b, ((), i)))), sinkD j l)
  | 0, l, hj, hl => by
    simp only [slices_insertionSortCmpFunc_Diagonal__i_compareDiagonals_L4]
    exact loopO_done (by simp [slices_insertionSortCmpFunc_Diagonal__i_compareDiagonals_L4_step, T.run, sinkD])
  | j + 1, l, hj, hl => by
    have ih := slices_insertionSortCmpFunc_Diagonal__i_compareDiagonals_sink b i j (swapD l j) (by rw [swapD_length]; omega) (by rw [swapD_length]; omega)
    simp only [slices_insertionSortCmpFunc_Diagonal__i_compareDiagonals_L4] at ih ⊢
    have w1 : w64 (((j + 1 : Nat) : Int) - 1) = (j : Int) := by rw [w64_id (by omega) (by omega)]; omega
    have c0 : ((j + 1 : Nat) : Int) > 0 := by omega
    have c1 : (0 : Int) ≤ ((j + 1 : Nat) : Int) ∧ ((j + 1 : Nat) : Int) < (l.length : Int) := by omega
    have c2 : (0 : Int) ≤ (j : Int) ∧ (j : Int) < (l.length : Int) := by omega
    have g1 := gD_some hj
    have g2 := gD_some (show j < l.length by omega)
    cases hlt : ltD (gD l (j + 1)) (gD l j) with
    | false =>
      have e : sinkD (j + 1) l = l := by unfold sinkD; rw [hlt]; rfl
      rw [e]
      refine loopO_done ?_
      simp only [slices_insertionSortCmpFunc_Diagonal__i_compareDiagonals_L4_step, T.run, w1, c0, c1, c2, Int.toNat_natCast, Nat.zero_add, g1, g2, Option.bind_some, decide_true, if_true, i_compareDiagonals_eq, cmpD_lt, hlt, and_self]
      simp
    | true =>
      have e : sinkD (j + 1) l = sinkD j (swapD l j) := by conv => lhs; unfold sinkD
                                                           rw [hlt]; rfl
      rw [e, ← ih]
      refine loopO_next ?_
      have g3 : (l.set (j + 1) (gD l j))[j]? = some (gD l j) := by rw [List.getElem?_set_ne (by omega)]; exact g2
      simp only [slices_insertionSortCmpFunc_Diagonal__i_compareDiagonals_L4_step, T.run, w1, c0, c1, c2, Int.toNat_natCast, Nat.zero_add, g1, g2, g3, Option.bind_some, decide_true, if_true, i_compareDiagonals_eq, cmpD_lt, hlt, and_self]
      simp [swapD]
theorem slices_insertionSortCmpFunc_Diagonal__i_compareDiagonals_isort : ∀ (n i : Nat) (l : List Dg), i + n = l.length → l.length < 1000000 →
    slices_insertionSortCmpFunc_Diagonal__i_compareDiagonals_L1 (((), ((0 : Int), ((l.length : Int), ((), (i : Int))))), l) = some ((), isortD n i l)
  | 0, i, l, hi, hl => by
    simp only [slices_insertionSortCmpFunc_Diagonal__i_compareDiagonals_L1]
    refine loopO_done ?_
    have : ¬ ((i : Int) < (l.length : Int)) := by omega
    simp [slices_insertionSortCmpFunc_Diagonal__i_compareDiagonals_L1_step, T.run, this, isortD]
  | n + 1, i, l, hi, hl => by
    have ih := slices_insertionSortCmpFunc_Diagonal__i_compareDiagonals_isort n (i + 1) (sinkD i l) (by rw [sinkD_length]; omega) (by rw [sinkD_length]; omega)
    rw [sinkD_length] at ih
    simp only [slices_insertionSortCmpFunc_Diagonal__i_compareDiagonals_L1] at ih ⊢
    show _ = some ((), isortD n (i + 1) (sinkD i l))
    rw [← ih]
    refine loopO_next ?_
    have c0 : (i : Int) < (l.length : Int) := by omega
    have w1 : w64 ((i : Int) + 1) = ((i + 1 : Nat) : Int) := by rw [w64_id (by omega) (by omega)]; omega
    simp only [slices_insertionSortCmpFunc_Diagonal__i_compareDiagonals_L1_step, T.run, c0, decide_true, if_true, slices_insertionSortCmpFunc_Diagonal__i_compareDiagonals_sink _ _ i l (by omega) hl, Option.bind_some, w1, and_self]


def slices_pdqsortCmpFunc_Diagonal__i_compareDiagonals_sh : FSh := ⟨[(.one (.rw 0 0)), (.one (.si .i64)), (.one (.si .i64)), (.one (.si .i64)), (.one (.fn n_i_compareDiagonals))], [(.row 0 (.pair (.int .i64) (.int .i64)))]⟩

def slices_pdqsortCmpFunc_Diagonal__i_compareDiagonals_L2_sh : LSh := ⟨(fun ex => match ex with | .norm => [(0, none), (1, none), (2, none), (3, none), (4, none), (10, none), (11, none)] | .exit i => if i = 0 then [] else [] | .ret => []), [(0, (.one (.rw 0 0))), (1, (.one (.si .i64))), (2, (.one (.si .i64))), (3, (.one (.si .i64))), (4, (.one (.fn n_i_compareDiagonals))), (10, (.one .sb)), (11, (.one .sb))], [(.row 0 (.pair (.int .i64) (.int .i64)))], [⟨.ret, [], [(.row 0 (.pair (.int .i64) (.int .i64)))]⟩], [], []⟩
noncomputable def slices_pdqsortCmpFunc_Diagonal__i_compareDiagonals_L2_step : ((Unit × Int × Int × Int × Unit × Bool × Bool) × List ((Int × Int))) → T (((Unit × Int × Int × Int × Unit × Bool × Bool) × List ((Int × Int))) ⊕ (Unit × List ((Int × Int)))) := fun (((), a, b, limit, (), wasBalanced, wasPartitioned), data) =>
  (.test (decide ((w64 (b - a)) ≤ 12))
  (.test (decide ((0 = 0) ∧ ((List.length data) = (List.length data))))
   (.sub (slices_insertionSortCmpFunc_Diagonal__i_compareDiagonals (((), (a, (b, ()))), data)) fun z0 =>
    (.ret (Sum.inr ((), z0.2))))
   .fail)
  (.test (limit == 0)
   .fail
   (.test (! wasBalanced)
    .fail
    .fail)))
noncomputable def slices_pdqsortCmpFunc_Diagonal__i_compareDiagonals_L2 (v : ((Unit × Int × Int × Int × Unit × Bool × Bool) × List ((Int × Int)))) : Option (Unit × List ((Int × Int))) := loopO (fun v => (slices_pdqsortCmpFunc_Diagonal__i_compareDiagonals_L2_step v).run) v

def slices_pdqsortCmpFunc_Diagonal__i_compareDiagonals_fo : List FO := [⟨[], [(.row 0 (.pair (.int .i64) (.int .i64)))]⟩]
noncomputable def slices_pdqsortCmpFunc_Diagonal__i_compareDiagonals_t : ((Unit × Int × Int × Int × Unit) × List ((Int × Int))) → T (Unit × List ((Int × Int))) := fun (((), a, b, limit, ()), data) =>
  (.test (decide ((0 = 0) ∧ ((List.length data) = (List.length data))))
  (.sub (slices_pdqsortCmpFunc_Diagonal__i_compareDiagonals_L2 (((), (a, (b, (limit, ((), (true, true)))))), data)) fun z0 =>
   (.ret ((), z0.2)))
  .fail)
noncomputable def slices_pdqsortCmpFunc_Diagonal__i_compareDiagonals (v : ((Unit × Int × Int × Int × Unit) × List ((Int × Int)))) : Option (Unit × List ((Int × Int))) := (slices_pdqsortCmpFunc_Diagonal__i_compareDiagonals_t v).run
noncomputable def slices_pdqsortCmpFunc_Diagonal__i_compareDiagonals_E : TEnv := (E0.add1 n_slices_insertionSortCmpFunc_Diagonal slices_insertionSortCmpFunc_Diagonal__i_compareDiagonals_sh slices_insertionSortCmpFunc_Diagonal__i_compareDiagonals_fo slices_insertionSortCmpFunc_Diagonal__i_compareDiagonals)
theorem slices_pdqsortCmpFunc_Diagonal__i_compareDiagonals_Eok : (slices_pdqsortCmpFunc_Diagonal__i_compareDiagonals_E).OK := (E0ok.add1 slices_insertionSortCmpFunc_Diagonal__i_compareDiagonals_ok)
noncomputable def slices_pdqsortCmpFunc_Diagonal__i_compareDiagonals_told : Nat → Option SealT := fun id => if id = 2 then some (LSh.told slices_pdqsortCmpFunc_Diagonal__i_compareDiagonals_L2_sh 1 (slices_pdqsortCmpFunc_Diagonal__i_compareDiagonals_L2_step)) else none
theorem slices_pdqsortCmpFunc_Diagonal__i_compareDiagonals_L2_ok : ToldOK Try.prog 1 (loopAt (bodyOf fn_slices_pdqsortCmpFunc_Diagonal) [0]) (LSh.told slices_pdqsortCmpFunc_Diagonal__i_compareDiagonals_L2_sh 1 (slices_pdqsortCmpFunc_Diagonal__i_compareDiagonals_L2_step)) :=
  loop_ok (E := slices_pdqsortCmpFunc_Diagonal__i_compareDiagonals_E) (slices_pdqsortCmpFunc_Diagonal__i_compareDiagonals_Eok) (told := slices_pdqsortCmpFunc_Diagonal__i_compareDiagonals_told) (l := slices_pdqsortCmpFunc_Diagonal__i_compareDiagonals_L2_sh) (step := slices_pdqsortCmpFunc_Diagonal__i_compareDiagonals_L2_step) (loopsOK_of (ls := []) (by kernel_rfl) trivial) (by kernel_rfl) (fun v => by kernel_rfl)
theorem slices_pdqsortCmpFunc_Diagonal__i_compareDiagonals_ok : FOK Try.prog n_slices_pdqsortCmpFunc_Diagonal slices_pdqsortCmpFunc_Diagonal__i_compareDiagonals_sh slices_pdqsortCmpFunc_Diagonal__i_compareDiagonals_fo slices_pdqsortCmpFunc_Diagonal__i_compareDiagonals :=
  fn_ok (E := slices_pdqsortCmpFunc_Diagonal__i_compareDiagonals_E) (slices_pdqsortCmpFunc_Diagonal__i_compareDiagonals_Eok) (told := slices_pdqsortCmpFunc_Diagonal__i_compareDiagonals_told) (fl := []) (c := bodyOf fn_slices_pdqsortCmpFunc_Diagonal) (s := slices_pdqsortCmpFunc_Diagonal__i_compareDiagonals_sh) (l := slices_pdqsortCmpFunc_Diagonal__i_compareDiagonals_fo) (tree := slices_pdqsortCmpFunc_Diagonal__i_compareDiagonals_t) fnat_slices_pdqsortCmpFunc_Diagonal (by kernel_rfl) (by kernel_rfl) (by kernel_rfl) (loopsOK_of (ls := [loopAt (bodyOf fn_slices_pdqsortCmpFunc_Diagonal) [0]]) (by kernel_rfl) ⟨.inr ⟨_, by kernel_rfl, slices_pdqsortCmpFunc_Diagonal__i_compareDiagonals_L2_ok⟩, trivial⟩) (fun v => by kernel_rfl)

def slices_SortFunc_Diagonal__i_compareDiagonals_sh : FSh := ⟨[(.one (.rw 0 0)), (.one (.fn n_i_compareDiagonals))], [(.row 0 (.pair (.int .i64) (.int .i64)))]⟩

def slices_SortFunc_Diagonal__i_compareDiagonals_fo : List FO := [⟨[], [(.row 0 (.pair (.int .i64) (.int .i64)))]⟩]
noncomputable def slices_SortFunc_Diagonal__i_compareDiagonals_t : ((Unit × Unit) × List ((Int × Int))) → T (Unit × List ((Int × Int))) := fun (((), ()), x) =>
  (.sub (math_bits_Len (wu64 ((List.length x) : Int))) fun z0 =>
  (.test (decide ((0 = 0) ∧ ((List.length x) = (List.length x))))
  (.sub (slices_pdqsortCmpFunc_Diagonal__i_compareDiagonals (((), ((0 : Int), (((List.length x) : Int), (z0, ())))), x)) fun z1 =>
   (.ret ((), z1.2)))
  .fail))
noncomputable def slices_SortFunc_Diagonal__i_compareDiagonals (v : ((Unit × Unit) × List ((Int × Int)))) : Option (Unit × List ((Int × Int))) := (slices_SortFunc_Diagonal__i_compareDiagonals_t v).run
noncomputable def slices_SortFunc_Diagonal__i_compareDiagonals_E : TEnv := ((E0.add1 n_math_bits_Len math_bits_Len_sh math_bits_Len_fo math_bits_Len).add1 n_slices_pdqsortCmpFunc_Diagonal slices_pdqsortCmpFunc_Diagonal__i_compareDiagonals_sh slices_pdqsortCmpFunc_Diagonal__i_compareDiagonals_fo slices_pdqsortCmpFunc_Diagonal__i_compareDiagonals)
theorem slices_SortFunc_Diagonal__i_compareDiagonals_Eok : (slices_SortFunc_Diagonal__i_compareDiagonals_E).OK := ((E0ok.add1 math_bits_Len_ok).add1 slices_pdqsortCmpFunc_Diagonal__i_compareDiagonals_ok)
noncomputable def slices_SortFunc_Diagonal__i_compareDiagonals_told : Nat → Option SealT := fun id => none
theorem slices_SortFunc_Diagonal__i_compareDiagonals_ok : FOK Try.prog n_slices_SortFunc_Diagonal slices_SortFunc_Diagonal__i_compareDiagonals_sh slices_SortFunc_Diagonal__i_compareDiagonals_fo slices_SortFunc_Diagonal__i_compareDiagonals :=
  fn_ok (E := slices_SortFunc_Diagonal__i_compareDiagonals_E) (slices_SortFunc_Diagonal__i_compareDiagonals_Eok) (told := slices_SortFunc_Diagonal__i_compareDiagonals_told) (fl := []) (c := bodyOf fn_slices_SortFunc_Diagonal) (s := slices_SortFunc_Diagonal__i_compareDiagonals_sh) (l := slices_SortFunc_Diagonal__i_compareDiagonals_fo) (tree := slices_SortFunc_Diagonal__i_compareDiagonals_t) fnat_slices_SortFunc_Diagonal (by kernel_rfl) (by kernel_rfl) (by kernel_rfl) (loopsOK_of (ls := []) (by kernel_rfl) trivial) (fun v => by kernel_rfl)

theorem slices_SortFunc_Diagonal__i_compareDiagonals_eq (l : List Dg) (hl : l.length ≤ 12) : slices_SortFunc_Diagonal__i_compareDiagonals (((), ()), l) = some ((), sortD l) := by
  have hw : wu64 (l.length : Int) = (l.length : Int) := IntWalk.u64_in _ ⟨by omega, by omega⟩
  have hz : math_bits_Len (wu64 (l.length : Int)) = some (Lib.bitLen l.length : Int) := by
    rw [hw]; unfold math_bits_Len; rw [if_pos ⟨by omega, by omega⟩, Int.toNat_natCast]
  have w0 : w64 ((l.length : Int) - 0) = (l.length : Int) := by rw [w64_id (by omega) (by omega)]; omega
  have w1 : w64 ((0 : Int) + 1) = ((1 : Nat) : Int) := by rw [w64_id (by omega) (by omega)]; rfl
  have c0 : (l.length : Int) ≤ 12 := by omega
  have hins : slices_insertionSortCmpFunc_Diagonal__i_compareDiagonals (((), ((0 : Int), ((l.length : Int), ()))), l) = some ((), sortD l) := by
    simp only [slices_insertionSortCmpFunc_Diagonal__i_compareDiagonals, slices_insertionSortCmpFunc_Diagonal__i_compareDiagonals_t, T.run, w1]
    by_cases h0 : l.length = 0
    · have : l = [] := List.eq_nil_of_length_eq_zero h0
      subst this
      simp only [slices_insertionSortCmpFunc_Diagonal__i_compareDiagonals_L1]
      rw [loopO_done (o := ((), []))]
      · simp [sortD]
      · simp [slices_insertionSortCmpFunc_Diagonal__i_compareDiagonals_L1_step, T.run]
    · rw [slices_insertionSortCmpFunc_Diagonal__i_compareDiagonals_isort (l.length - 1) 1 l (by omega) (by omega), isortD_eq]
      simp
  simp only [slices_SortFunc_Diagonal__i_compareDiagonals, slices_SortFunc_Diagonal__i_compareDiagonals_t, T.run, hz, Option.bind_some, slices_pdqsortCmpFunc_Diagonal__i_compareDiagonals, slices_pdqsortCmpFunc_Diagonal__i_compareDiagonals_t, slices_pdqsortCmpFunc_Diagonal__i_compareDiagonals_L2]
  rw [loopO_done (o := ((), sortD l))]
  · simp
  · simp only [slices_pdqsortCmpFunc_Diagonal__i_compareDiagonals_L2_step, T.run, w0, c0, decide_true, if_true, hins, Option.bind_some]
    simp


def slices_Equal_int_sh : FSh := ⟨[(.one (.sl (.int .i64) false false)), (.one (.sl (.int .i64) false false))], []⟩

def slices_Equal_int_L4_sh : LSh := ⟨(fun ex => match ex with | .norm => [(0, none), (1, none), (12, none), (13, none)] | .exit i => if i = 0 then [] else [] | .ret => [(4, none)]), [(0, (.one (.sl (.int .i64) false false))), (1, (.one (.sl (.int .i64) false false))), (12, (.one (.si .i64))), (13, (.one (.si .i64)))], [], [⟨.ret, [(4, (.one .sb))], []⟩, ⟨(.exit 0), [], []⟩], [], []⟩
noncomputable def slices_Equal_int_L4_step : (List (Int) × List (Int) × Int × Int) → T ((List (Int) × List (Int) × Int × Int) ⊕ (Bool ⊕ Unit)) := fun (s1, s2, t12, t13) =>
  (.test (decide (t13 < t12))
  (.test (decide ((0 ≤ t13) ∧ (t13 < ((List.length s1) : Int))))
   (.sub (s1[(Int.toNat t13)]?) fun z0 =>
    (.test (decide ((0 ≤ t13) ∧ (t13 < ((List.length s2) : Int))))
    (.sub (s2[(Int.toNat t13)]?) fun z1 =>
     (.test (z0 != z1)
     (.ret (Sum.inr (Sum.inl false)))
     (.ret (Sum.inl (s1, (s2, (t12, (w64 (t13 + 1)))))))))
    .fail))
   .fail)
  (.ret (Sum.inr (Sum.inr ()))))
noncomputable def slices_Equal_int_L4 (v : (List (Int) × List (Int) × Int × Int)) : Option (Bool ⊕ Unit) := loopO (fun v => (slices_Equal_int_L4_step v).run) v

def slices_Equal_int_fo : List FO := [⟨[(.one .sb)], []⟩]
noncomputable def slices_Equal_int_t : (List (Int) × List (Int)) → T Bool := fun (s1, s2) =>
  (.test (((List.length s1) : Int) != ((List.length s2) : Int))
  (.ret false)
  (.sub (slices_Equal_int_L4 (s1, (s2, (((List.length s1) : Int), (0 : Int))))) fun z0 =>
   (.test (Sum.isLeft z0)
   (.sub (Sum.getLeft? z0) fun z1 =>
    (.ret z1))
   (.sub (Sum.getRight? z0) fun z2 =>
    (.ret true)))))
noncomputable def slices_Equal_int (v : (List (Int) × List (Int))) : Option Bool := (slices_Equal_int_t v).run
noncomputable def slices_Equal_int_E : TEnv := E0
theorem slices_Equal_int_Eok : (slices_Equal_int_E).OK := E0ok
noncomputable def slices_Equal_int_told : Nat → Option SealT := fun id => if id = 4 then some (LSh.told slices_Equal_int_L4_sh 0 (slices_Equal_int_L4_step)) else none
theorem slices_Equal_int_L4_ok : ToldOK Try.prog 0 (loopAt (bodyOf fn_slices_Equal_int) [0]) (LSh.told slices_Equal_int_L4_sh 0 (slices_Equal_int_L4_step)) :=
  loop_ok (E := slices_Equal_int_E) (slices_Equal_int_Eok) (told := slices_Equal_int_told) (l := slices_Equal_int_L4_sh) (step := slices_Equal_int_L4_step) (loopsOK_of (ls := []) (by kernel_rfl) trivial) (by kernel_rfl) (fun v => by kernel_rfl)
theorem slices_Equal_int_ok : FOK Try.prog n_slices_Equal_int slices_Equal_int_sh slices_Equal_int_fo slices_Equal_int :=
  fn_ok (E := slices_Equal_int_E) (slices_Equal_int_Eok) (told := slices_Equal_int_told) (fl := []) (c := bodyOf fn_slices_Equal_int) (s := slices_Equal_int_sh) (l := slices_Equal_int_fo) (tree := slices_Equal_int_t) fnat_slices_Equal_int (by kernel_rfl) (by kernel_rfl) (by kernel_rfl) (loopsOK_of (ls := [loopAt (bodyOf fn_slices_Equal_int) [0]]) (by kernel_rfl) ⟨.inr ⟨_, by kernel_rfl, slices_Equal_int_L4_ok⟩, trivial⟩) (fun v => by kernel_rfl)

theorem slices_Equal_int_eq (a b : List Int) (hl : a.length < 4611686018427387904) : slices_Equal_int (a, b) = some (decide (a = b)) := by
  simp only [slices_Equal_int, slices_Equal_int_t, T.run]
  by_cases he : a.length = b.length
  · have h := loop_any (step := fun v => (slices_Equal_int_L4_step v).run) (xs := a.zip b) (fun p => p.1 != p.2) (fun k => (a, (b, ((a.length : Int), (k : Int))))) (.inl false) (.inr ())
      (fun k x hx => by
        obtain ⟨x1, x2⟩ := x
        rw [List.getElem?_zip_eq_some] at hx
        obtain ⟨h1, h2⟩ := hx
        simp only at h1 h2
        have hk := getElem?_lt h1
        have hk2 := getElem?_lt h2
        have c0 : (k : Int) < (a.length : Int) := by omega
        have c1 : (0 : Int) ≤ (k : Int) ∧ (k : Int) < (a.length : Int) := by omega
        have c2 : (0 : Int) ≤ (k : Int) ∧ (k : Int) < (b.length : Int) := by omega
        have w1 : w64 ((k : Int) + 1) = ((k + 1 : Nat) : Int) := by rw [w64_id (by omega) (by omega)]; omega
        simp only [slices_Equal_int_L4_step, T.run, c0, c1, c2, decide_true, if_true, and_self, Int.toNat_natCast, h1, h2, Option.bind_some, w1]
        cases x1 != x2 <;> simp)
      (by simp [slices_Equal_int_L4_step, T.run, he])
    simp only [Int.natCast_zero] at h
    rw [zip_any_ne a b he] at h
    have hne : ((a.length : Int) != (b.length : Int)) = false := by simp [he]
    simp only [slices_Equal_int_L4, h, hne]
    by_cases hab : a = b <;> simp [hab]
  · have : a ≠ b := fun e => he (by rw [e])
    have hne : ((a.length : Int) != (b.length : Int)) = true := by simp; omega
    simp [hne, this]


def i_isDiagonal_sh : FSh := ⟨[(.one (.si .i64)), (.ag [(.si .i64), (.si .i64)])], []⟩

def i_isDiagonal_fo : List FO := [⟨[(.one .sb)], []⟩]
noncomputable def i_isDiagonal_t : (Int × (Int × Int)) → T Bool := fun (n, (d_0, d_1)) =>
  (.sub (i_within (d_0, ((0 : Int), (w64 (n - 1))))) fun z0 =>
  (.test z0
  (.sub (i_within (d_1, ((0 : Int), (w64 (n - 1))))) fun z1 =>
   (.test z1
   (.test (decide ((w64 (d_1 - d_0)) > 1))
    (.test (d_0 == 0)
     (.ret (! (d_1 == (w64 (n - 1)))))
     (.ret true))
    (.ret false))
   (.ret false)))
  (.ret false)))
noncomputable def i_isDiagonal (v : (Int × (Int × Int))) : Option Bool := (i_isDiagonal_t v).run
noncomputable def i_isDiagonal_E : TEnv := (E0.add1 n_i_within i_within_sh i_within_fo i_within)
theorem i_isDiagonal_Eok : (i_isDiagonal_E).OK := (E0ok.add1 i_within_ok)
noncomputable def i_isDiagonal_told : Nat → Option SealT := fun id => none
theorem i_isDiagonal_ok : FOK Try.prog n_i_isDiagonal i_isDiagonal_sh i_isDiagonal_fo i_isDiagonal :=
  fn_ok (E := i_isDiagonal_E) (i_isDiagonal_Eok) (told := i_isDiagonal_told) (fl := []) (c := bodyOf fn_i_isDiagonal) (s := i_isDiagonal_sh) (l := i_isDiagonal_fo) (tree := i_isDiagonal_t) fnat_i_isDiagonal (by kernel_rfl) (by kernel_rfl) (by kernel_rfl) (loopsOK_of (ls := []) (by kernel_rfl) trivial) (fun v => by kernel_rfl)

theorem i_isDiagonal_eq (n : Int) (d : Dg) (h1 : 0 ≤ n) (h2 : n ≤ 1000000) : i_isDiagonal (n, d) = some (inDg n d) := by
  obtain ⟨a, b⟩ := d
  have w1 : w64 (n - 1) = n - 1 := w64_id (by omega) (by omega)
  simp only [i_isDiagonal, i_isDiagonal_t, T.run, i_within_eq, Option.bind_some, w1, inDg]
  cases ha : inB 0 (n - 1) a with
  | false => simp
  | true =>
    cases hb : inB 0 (n - 1) b with
    | false => simp
    | true =>
      rw [inB_iff] at ha hb
      have w2 : w64 (b - a) = b - a := w64_id (by omega) (by omega)
      rw [w2]
      by_cases h4 : a = 0
      · subst h4
        rw [Int.sub_zero]
        by_cases h5 : b > 1 <;> simp [h5, beq_int]
      · by_cases h5 : b - a > 1 <;> simp [h5, h4]


def i_doCross_sh : FSh := ⟨[(.ag [(.si .i64), (.si .i64)]), (.ag [(.si .i64), (.si .i64)])], []⟩

def i_doCross_fo : List FO := [⟨[(.one .sb)], []⟩]
noncomputable def i_doCross_t : ((Int × Int) × (Int × Int)) → T Bool := fun ((d_0, d_1), (e_0, e_1)) =>
  (.test (decide (d_0 < e_0))
  (.test (decide (e_0 < d_1))
   (.test (decide (d_1 < e_1))
    (.ret true)
    (.test (decide (e_0 < d_0))
     (.test (decide (d_0 < e_1))
      (.ret (decide (e_1 < d_1)))
      (.ret false))
     (.ret false)))
   (.test (decide (e_0 < d_0))
    (.test (decide (d_0 < e_1))
     (.ret (decide (e_1 < d_1)))
     (.ret false))
    (.ret false)))
  (.test (decide (e_0 < d_0))
   (.test (decide (d_0 < e_1))
    (.ret (decide (e_1 < d_1)))
    (.ret false))
   (.ret false)))
noncomputable def i_doCross (v : ((Int × Int) × (Int × Int))) : Option Bool := (i_doCross_t v).run
noncomputable def i_doCross_E : TEnv := E0
theorem i_doCross_Eok : (i_doCross_E).OK := E0ok
noncomputable def i_doCross_told : Nat → Option SealT := fun id => none
theorem i_doCross_ok : FOK Try.prog n_i_doCross i_doCross_sh i_doCross_fo i_doCross :=
  fn_ok (E := i_doCross_E) (i_doCross_Eok) (told := i_doCross_told) (fl := []) (c := bodyOf fn_i_doCross) (s := i_doCross_sh) (l := i_doCross_fo) (tree := i_doCross_t) fnat_i_doCross (by kernel_rfl) (by kernel_rfl) (by kernel_rfl) (loopsOK_of (ls := []) (by kernel_rfl) trivial) (fun v => by kernel_rfl)

theorem i_doCross_eq (d e : Dg) : i_doCross (d, e) = some (crossD d e) := by
  obtain ⟨a, b⟩ := d
  obtain ⟨c, f⟩ := e
  simp only [i_doCross, i_doCross_t, T.run, crossD]
  by_cases h1 : a < c <;> by_cases h2 : c < b <;> by_cases h3 : b < f <;> by_cases h4 : c < a <;> by_cases h5 : a < f <;> by_cases h6 : f < b <;> simp [h1, h2, h3, h4, h5, h6]


def i_IsTriangulation_1_sh : FSh := ⟨[(.ag [(.si .i64), (.si .i64)]), (.one (.pf 0 0 0))], [(.rcd 0 [(.si .i64), (.si .i64)])]⟩

def i_IsTriangulation_1_fo : List FO := [⟨[(.one .sb)], [(.rcd 0 [(.si .i64), (.si .i64)])]⟩]
noncomputable def i_IsTriangulation_1_t : (((Int × Int) × Unit) × (Int × Int)) → T (Bool × (Int × Int)) := fun (((e_0, e_1), ()), (t1_0, t1_1)) =>
  (.sub (i_doCross ((t1_0, t1_1), (e_0, e_1))) fun z0 =>
  (.ret (z0, (t1_0, t1_1))))
noncomputable def i_IsTriangulation_1 (v : (((Int × Int) × Unit) × (Int × Int))) : Option (Bool × (Int × Int)) := (i_IsTriangulation_1_t v).run
noncomputable def i_IsTriangulation_1_E : TEnv := (E0.add1 n_i_doCross i_doCross_sh i_doCross_fo i_doCross)
theorem i_IsTriangulation_1_Eok : (i_IsTriangulation_1_E).OK := (E0ok.add1 i_doCross_ok)
noncomputable def i_IsTriangulation_1_told : Nat → Option SealT := fun id => none
theorem i_IsTriangulation_1_ok : FOK Try.prog n_i_IsTriangulation_1 i_IsTriangulation_1_sh i_IsTriangulation_1_fo i_IsTriangulation_1 :=
  fn_ok (E := i_IsTriangulation_1_E) (i_IsTriangulation_1_Eok) (told := i_IsTriangulation_1_told) (fl := []) (c := bodyOf fn_i_IsTriangulation_1) (s := i_IsTriangulation_1_sh) (l := i_IsTriangulation_1_fo) (tree := i_IsTriangulation_1_t) fnat_i_IsTriangulation_1 (by kernel_rfl) (by kernel_rfl) (by kernel_rfl) (loopsOK_of (ls := []) (by kernel_rfl) trivial) (fun v => by kernel_rfl)

def slices_IndexFunc_Diagonal__i_IsTriangulation_1_sh : FSh := ⟨[(.one (.sl (.pair (.int .i64) (.int .i64)) false false)), (.clo n_i_IsTriangulation_1 [(.one (.pf 0 0 0))])], [(.rcd 0 [(.si .i64), (.si .i64)])]⟩

def slices_IndexFunc_Diagonal__i_IsTriangulation_1_L2_sh : LSh := ⟨(fun ex => match ex with | .norm => [(0, none), (1, none), (7, none), (8, none)] | .exit i => if i = 0 then [] else [] | .ret => [(4, none)]), [(0, (.one (.sl (.pair (.int .i64) (.int .i64)) false false))), (1, (.clo n_i_IsTriangulation_1 [(.one (.pf 0 0 0))])), (7, (.one (.si .i64))), (8, (.one (.si .i64)))], [(.rcd 0 [(.si .i64), (.si .i64)])], [⟨.ret, [(4, (.one (.si .i64)))], [(.rcd 0 [(.si .i64), (.si .i64)])]⟩, ⟨(.exit 0), [], [(.rcd 0 [(.si .i64), (.si .i64)])]⟩], [], []⟩
noncomputable def slices_IndexFunc_Diagonal__i_IsTriangulation_1_L2_step : ((List ((Int × Int)) × Unit × Int × Int) × (Int × Int)) → T (((List ((Int × Int)) × Unit × Int × Int) × (Int × Int)) ⊕ ((Int × (Int × Int)) ⊕ (Unit × (Int × Int)))) := fun ((s, (), t7, t8), (r0_0, r0_1)) =>
  (.test (decide (t8 < t7))
  (.test (decide ((0 ≤ t8) ∧ (t8 < ((List.length s) : Int))))
   (.sub (s[(Int.toNat t8)]?) fun z0 =>
    (.sub (i_IsTriangulation_1 (((z0.1, z0.2), ()), (r0_0, r0_1))) fun z1 =>
    (.test z1.1
    (.ret (Sum.inr (Sum.inl (t8, (z1.2.1, z1.2.2)))))
    (.ret (Sum.inl ((s, ((), (t7, (w64 (t8 + 1))))), (z1.2.1, z1.2.2)))))))
   .fail)
  (.ret (Sum.inr (Sum.inr ((), (r0_0, r0_1))))))
noncomputable def slices_IndexFunc_Diagonal__i_IsTriangulation_1_L2 (v : ((List ((Int × Int)) × Unit × Int × Int) × (Int × Int))) : Option ((Int × (Int × Int)) ⊕ (Unit × (Int × Int))) := loopO (fun v => (slices_IndexFunc_Diagonal__i_IsTriangulation_1_L2_step v).run) v

def slices_IndexFunc_Diagonal__i_IsTriangulation_1_fo : List FO := [⟨[(.one (.si .i64))], [(.rcd 0 [(.si .i64), (.si .i64)])]⟩]
noncomputable def slices_IndexFunc_Diagonal__i_IsTriangulation_1_t : ((List ((Int × Int)) × Unit) × (Int × Int)) → T (Int × (Int × Int)) := fun ((s, ()), (r0_0, r0_1)) =>
  (.sub (slices_IndexFunc_Diagonal__i_IsTriangulation_1_L2 ((s, ((), (((List.length s) : Int), (0 : Int)))), (r0_0, r0_1))) fun z0 =>
  (.test (Sum.isLeft z0)
  (.sub (Sum.getLeft? z0) fun z1 =>
   (.ret (z1.1, (z1.2.1, z1.2.2))))
  (.sub (Sum.getRight? z0) fun z2 =>
   (.ret ((-1), (z2.2.1, z2.2.2))))))
noncomputable def slices_IndexFunc_Diagonal__i_IsTriangulation_1 (v : ((List ((Int × Int)) × Unit) × (Int × Int))) : Option (Int × (Int × Int)) := (slices_IndexFunc_Diagonal__i_IsTriangulation_1_t v).run
noncomputable def slices_IndexFunc_Diagonal__i_IsTriangulation_1_E : TEnv := (E0.add1 n_i_IsTriangulation_1 i_IsTriangulation_1_sh i_IsTriangulation_1_fo i_IsTriangulation_1)
theorem slices_IndexFunc_Diagonal__i_IsTriangulation_1_Eok : (slices_IndexFunc_Diagonal__i_IsTriangulation_1_E).OK := (E0ok.add1 i_IsTriangulation_1_ok)
noncomputable def slices_IndexFunc_Diagonal__i_IsTriangulation_1_told : Nat → Option SealT := fun id => if id = 2 then some (LSh.told slices_IndexFunc_Diagonal__i_IsTriangulation_1_L2_sh 1 (slices_IndexFunc_Diagonal__i_IsTriangulation_1_L2_step)) else none
theorem slices_IndexFunc_Diagonal__i_IsTriangulation_1_L2_ok : ToldOK Try.prog 1 (loopAt (bodyOf fn_slices_IndexFunc_Diagonal) [0]) (LSh.told slices_IndexFunc_Diagonal__i_IsTriangulation_1_L2_sh 1 (slices_IndexFunc_Diagonal__i_IsTriangulation_1_L2_step)) :=
  loop_ok (E := slices_IndexFunc_Diagonal__i_IsTriangulation_1_E) (slices_IndexFunc_Diagonal__i_IsTriangulation_1_Eok) (told := slices_IndexFunc_Diagonal__i_IsTriangulation_1_told) (l := slices_IndexFunc_Diagonal__i_IsTriangulation_1_L2_sh) (step := slices_IndexFunc_Diagonal__i_IsTriangulation_1_L2_step) (loopsOK_of (ls := []) (by kernel_rfl) trivial) (by kernel_rfl) (fun v => by kernel_rfl)
theorem slices_IndexFunc_Diagonal__i_IsTriangulation_1_ok : FOK Try.prog n_slices_IndexFunc_Diagonal slices_IndexFunc_Diagonal__i_IsTriangulation_1_sh slices_IndexFunc_Diagonal__i_IsTriangulation_1_fo slices_IndexFunc_Diagonal__i_IsTriangulation_1 :=
  fn_ok (E := slices_IndexFunc_Diagonal__i_IsTriangulation_1_E) (slices_IndexFunc_Diagonal__i_IsTriangulation_1_Eok) (told := slices_IndexFunc_Diagonal__i_IsTriangulation_1_told) (fl := []) (c := bodyOf fn_slices_IndexFunc_Diagonal) (s := slices_IndexFunc_Diagonal__i_IsTriangulation_1_sh) (l := slices_IndexFunc_Diagonal__i_IsTriangulation_1_fo) (tree := slices_IndexFunc_Diagonal__i_IsTriangulation_1_t) fnat_slices_IndexFunc_Diagonal (by kernel_rfl) (by kernel_rfl) (by kernel_rfl) (loopsOK_of (ls := [loopAt (bodyOf fn_slices_IndexFunc_Diagonal) [0]]) (by kernel_rfl) ⟨.inr ⟨_, by kernel_rfl, slices_IndexFunc_Diagonal__i_IsTriangulation_1_L2_ok⟩, trivial⟩) (fun v => by kernel_rfl)

def slices_ContainsFunc_Diagonal__i_IsTriangulation_1_sh : FSh := ⟨[(.one (.sl (.pair (.int .i64) (.int .i64)) false false)), (.clo n_i_IsTriangulation_1 [(.one (.pf 0 0 0))])], [(.rcd 0 [(.si .i64), (.si .i64)])]⟩

def slices_ContainsFunc_Diagonal__i_IsTriangulation_1_fo : List FO := [⟨[(.one .sb)], [(.rcd 0 [(.si .i64), (.si .i64)])]⟩]
noncomputable def slices_ContainsFunc_Diagonal__i_IsTriangulation_1_t : ((List ((Int × Int)) × Unit) × (Int × Int)) → T (Bool × (Int × Int)) := fun ((s, ()), (r0_0, r0_1)) =>
  (.sub (slices_IndexFunc_Diagonal__i_IsTriangulation_1 ((s, ()), (r0_0, r0_1))) fun z0 =>
  (.ret ((decide (z0.1 ≥ 0)), (z0.2.1, z0.2.2))))
noncomputable def slices_ContainsFunc_Diagonal__i_IsTriangulation_1 (v : ((List ((Int × Int)) × Unit) × (Int × Int))) : Option (Bool × (Int × Int)) := (slices_ContainsFunc_Diagonal__i_IsTriangulation_1_t v).run
noncomputable def slices_ContainsFunc_Diagonal__i_IsTriangulation_1_E : TEnv := (E0.add1 n_slices_IndexFunc_Diagonal slices_IndexFunc_Diagonal__i_IsTriangulation_1_sh slices_IndexFunc_Diagonal__i_IsTriangulation_1_fo slices_IndexFunc_Diagonal__i_IsTriangulation_1)
theorem slices_ContainsFunc_Diagonal__i_IsTriangulation_1_Eok : (slices_ContainsFunc_Diagonal__i_IsTriangulation_1_E).OK := (E0ok.add1 slices_IndexFunc_Diagonal__i_IsTriangulation_1_ok)
noncomputable def slices_ContainsFunc_Diagonal__i_IsTriangulation_1_told : Nat → Option SealT := fun id => none
theorem slices_ContainsFunc_Diagonal__i_IsTriangulation_1_ok : FOK Try.prog n_slices_ContainsFunc_Diagonal slices_ContainsFunc_Diagonal__i_IsTriangulation_1_sh slices_ContainsFunc_Diagonal__i_IsTriangulation_1_fo slices_ContainsFunc_Diagonal__i_IsTriangulation_1 :=
  fn_ok (E := slices_ContainsFunc_Diagonal__i_IsTriangulation_1_E) (slices_ContainsFunc_Diagonal__i_IsTriangulation_1_Eok) (told := slices_ContainsFunc_Diagonal__i_IsTriangulation_1_told) (fl := []) (c := bodyOf fn_slices_ContainsFunc_Diagonal) (s := slices_ContainsFunc_Diagonal__i_IsTriangulation_1_sh) (l := slices_ContainsFunc_Diagonal__i_IsTriangulation_1_fo) (tree := slices_ContainsFunc_Diagonal__i_IsTriangulation_1_t) fnat_slices_ContainsFunc_Diagonal (by kernel_rfl) (by kernel_rfl) (by kernel_rfl) (loopsOK_of (ls := []) (by kernel_rfl) trivial) (fun v => by kernel_rfl)

theorem slices_ContainsFunc_Diagonal__i_IsTriangulation_1_eq (s : List Dg) (d : Dg) (hl : s.length < 4611686018427387904) : slices_ContainsFunc_Diagonal__i_IsTriangulation_1 ((s, ()), d) = some (s.any (crossD d), d) := by
  obtain ⟨a, b⟩ := d
  have hc : ∀ e : Dg, i_IsTriangulation_1 ((e, ()), (a, b)) = some (crossD (a, b) e, (a, b)) := by
    intro e
    obtain ⟨e0, e1⟩ := e
    simp [i_IsTriangulation_1, i_IsTriangulation_1_t, T.run, i_doCross_eq]
  have h := loop_find (step := fun v => (slices_IndexFunc_Diagonal__i_IsTriangulation_1_L2_step v).run) (xs := s) (crossD (a, b)) (fun k => ((s, ((), ((s.length : Int), (k : Int)))), (a, b))) (fun k => .inl ((k : Int), (a, b))) (.inr ((), (a, b)))
    (fun k x hx => by
      have hlt := getElem?_lt hx
      have h1 : (k : Int) < (s.length : Int) := by omega
      have h2 : (0 : Int) ≤ k ∧ (k : Int) < (s.length : Int) := by omega
      simp only [slices_IndexFunc_Diagonal__i_IsTriangulation_1_L2_step, T.run, Int.toNat_natCast, hx, Option.bind_some, h1, h2, decide_true, if_true, and_self, hc]
      rw [w64_id (z := (k : Int) + 1) (by omega) (by omega)]
      cases hv : crossD (a, b) x <;> simp)
    (by simp [slices_IndexFunc_Diagonal__i_IsTriangulation_1_L2_step, T.run])
  rw [show ((0 : Nat) : Int) = 0 from rfl] at h
  have hi : slices_IndexFunc_Diagonal__i_IsTriangulation_1 ((s, ()), (a, b)) = some (idxI (crossD (a, b)) s, (a, b)) := by
    simp only [slices_IndexFunc_Diagonal__i_IsTriangulation_1, slices_IndexFunc_Diagonal__i_IsTriangulation_1_t, T.run, slices_IndexFunc_Diagonal__i_IsTriangulation_1_L2]
    rw [h]
    simp only [idxI]
    cases hf : s.findIdx? (crossD (a, b)) <;> simp [Sum.isLeft]
  simp only [slices_ContainsFunc_Diagonal__i_IsTriangulation_1, slices_ContainsFunc_Diagonal__i_IsTriangulation_1_t, T.run, hi, Option.bind_some, idxI_ge]


def i_IsTriangulation_sh : FSh := ⟨[(.one (.si .i64)), (.one (.sl (.pair (.int .i64) (.int .i64)) false false))], []⟩

def i_IsTriangulation_L4_sh : LSh := ⟨(fun ex => match ex with | .norm => [(0, none), (1, none), (17, none), (18, none), (19, none)] | .exit i => if i = 0 then [] else [] | .ret => [(4, none)]), [(0, (.one (.si .i64))), (1, (.one (.sl (.pair (.int .i64) (.int .i64)) false false))), (17, (.one (.sl (.pair (.int .i64) (.int .i64)) false false))), (18, (.one (.si .i64))), (19, (.one (.si .i64)))], [], [⟨.ret, [(4, (.one .sb))], []⟩, ⟨(.exit 0), [], []⟩], [], []⟩
noncomputable def i_IsTriangulation_L4_step : (Int × List ((Int × Int)) × List ((Int × Int)) × Int × Int) → T ((Int × List ((Int × Int)) × List ((Int × Int)) × Int × Int) ⊕ (Bool ⊕ Unit)) := fun (n, ds, t17, t18, t19) =>
  (.test (decide (t19 < t18))
  (.test (decide ((0 ≤ t19) ∧ (t19 < ((List.length t17) : Int))))
   (.sub (t17[(Int.toNat t19)]?) fun z0 =>
    (.sub (i_isDiagonal (n, (z0.1, z0.2))) fun z1 =>
    (.test (! z1)
    (.ret (Sum.inr (Sum.inl false)))
    (.test (decide (t19 > 0))
     (.test (decide ((0 ≤ (w64 (t19 - 1))) ∧ ((w64 (t19 - 1)) < ((List.length ds) : Int))))
      (.sub (ds[(Int.toNat (w64 (t19 - 1)))]?) fun z2 =>
       (.sub (i_compareDiagonals ((z2.1, z2.2), (z0.1, z0.2))) fun z3 =>
       (.test (decide (z3 ≥ 0))
       (.ret (Sum.inr (Sum.inl false)))
       (.test (decide (0 ≤ t19))
        (.test (decide ((0 ≤ (Int.toNat t19)) ∧ ((Int.toNat t19) ≤ (List.length ds))))
         (.sub (slices_ContainsFunc_Diagonal__i_IsTriangulation_1 (((win ds 0 ((Int.toNat t19) - 0)), ()), (z0.1, z0.2))) fun z4 =>
          (.test z4.1
          (.ret (Sum.inr (Sum.inl false)))
          (.ret (Sum.inl (n, (ds, (t17, (t18, (w64 (t19 + 1))))))))))
         .fail)
        .fail))))
      .fail)
     (.test (decide (0 ≤ t19))
      (.test (decide ((0 ≤ (Int.toNat t19)) ∧ ((Int.toNat t19) ≤ (List.length ds))))
       (.sub (slices_ContainsFunc_Diagonal__i_IsTriangulation_1 (((win ds 0 ((Int.toNat t19) - 0)), ()), (z0.1, z0.2))) fun z5 =>
        (.test z5.1
        (.ret (Sum.inr (Sum.inl false)))
        (.ret (Sum.inl (n, (ds, (t17, (t18, (w64 (t19 + 1))))))))))
       .fail)
      .fail)))))
   .fail)
  (.ret (Sum.inr (Sum.inr ()))))
noncomputable def i_IsTriangulation_L4 (v : (Int × List ((Int × Int)) × List ((Int × Int)) × Int × Int)) : Option (Bool ⊕ Unit) := loopO (fun v => (i_IsTriangulation_L4_step v).run) v

def i_IsTriangulation_fo : List FO := [⟨[(.one .sb)], []⟩]
noncomputable def i_IsTriangulation_t : (Int × List ((Int × Int))) → T Bool := fun (n, ds) =>
  (.sub (i_isPolygon n) fun z0 =>
  (.test (! z0)
  (.ret false)
  (.test (((List.length ds) : Int) != (w64 (n - 3)))
   (.ret false)
   (.sub (i_IsTriangulation_L4 (n, (ds, (ds, (((List.length ds) : Int), (0 : Int)))))) fun z1 =>
    (.test (Sum.isLeft z1)
    (.sub (Sum.getLeft? z1) fun z2 =>
     (.ret z2))
    (.sub (Sum.getRight? z1) fun z3 =>
     (.ret true)))))))
noncomputable def i_IsTriangulation (v : (Int × List ((Int × Int)))) : Option Bool := (i_IsTriangulation_t v).run
noncomputable def i_IsTriangulation_E : TEnv := ((((E0.add1 n_i_isPolygon i_isPolygon_sh i_isPolygon_fo i_isPolygon).add1 n_i_isDiagonal i_isDiagonal_sh i_isDiagonal_fo i_isDiagonal).add1 n_i_compareDiagonals i_compareDiagonals_sh i_compareDiagonals_fo i_compareDiagonals).add1 n_slices_ContainsFunc_Diagonal slices_ContainsFunc_Diagonal__i_IsTriangulation_1_sh slices_ContainsFunc_Diagonal__i_IsTriangulation_1_fo slices_ContainsFunc_Diagonal__i_IsTriangulation_1)
theorem i_IsTriangulation_Eok : (i_IsTriangulation_E).OK := ((((E0ok.add1 i_isPolygon_ok).add1 i_isDiagonal_ok).add1 i_compareDiagonals_ok).add1 slices_ContainsFunc_Diagonal__i_IsTriangulation_1_ok)
noncomputable def i_IsTriangulation_told : Nat → Option SealT := fun id => if id = 4 then some (LSh.told i_IsTriangulation_L4_sh 0 (i_IsTriangulation_L4_step)) else none
theorem i_IsTriangulation_L4_ok : ToldOK Try.prog 0 (loopAt (bodyOf fn_i_IsTriangulation) [0]) (LSh.told i_IsTriangulation_L4_sh 0 (i_IsTriangulation_L4_step)) :=
  loop_ok (E := i_IsTriangulation_E) (i_IsTriangulation_Eok) (told := i_IsTriangulation_told) (l := i_IsTriangulation_L4_sh) (step := i_IsTriangulation_L4_step) (loopsOK_of (ls := []) (by kernel_rfl) trivial) (by kernel_rfl) (fun v => by kernel_rfl)
theorem i_IsTriangulation_ok : FOK Try.prog n_i_IsTriangulation i_IsTriangulation_sh i_IsTriangulation_fo i_IsTriangulation :=
  fn_ok (E := i_IsTriangulation_E) (i_IsTriangulation_Eok) (told := i_IsTriangulation_told) (fl := []) (c := bodyOf fn_i_IsTriangulation) (s := i_IsTriangulation_sh) (l := i_IsTriangulation_fo) (tree := i_IsTriangulation_t) fnat_i_IsTriangulation (by kernel_rfl) (by kernel_rfl) (by kernel_rfl) (loopsOK_of (ls := [loopAt (bodyOf fn_i_IsTriangulation) [0]]) (by kernel_rfl) ⟨.inr ⟨_, by kernel_rfl, i_IsTriangulation_L4_ok⟩, trivial⟩) (fun v => by kernel_rfl)

theorem i_IsTriangulation_eq (n : Int) (ds : List Dg) (hl : ds.length < 4611686018427387904) : i_IsTriangulation (n, ds) = some (isTri n ds) := by
  simp only [i_IsTriangulation, i_IsTriangulation_t, T.run, i_isPolygon, i_isPolygon_t, i_within_eq, Option.bind_some, isTri]
  cases hn : inB 3 12 n with
  | false => simp
  | true =>
    rw [inB_iff] at hn
    rw [w64_id (z := n - 3) (by omega) (by omega)]
    by_cases he : (ds.length : Int) = n - 3
    · have h := loop_any (step := fun v => (i_IsTriangulation_L4_step v).run) (xs := List.range ds.length) (badT n ds) (fun k => (n, (ds, (ds, ((ds.length : Int), (k : Int)))))) (.inl false) (.inr ())
        (fun k x hx => by
          obtain ⟨hk, e⟩ := List.getElem?_eq_some_iff.1 hx
          simp only [List.getElem_range] at e
          subst e
          rw [List.length_range] at hk
          have g0 := gD_some hk
          have c0 : (k : Int) < (ds.length : Int) := by omega
          have c1 : (0 : Int) ≤ (k : Int) ∧ (k : Int) < (ds.length : Int) := by omega
          have w1 : w64 ((k : Int) + 1) = ((k + 1 : Nat) : Int) := by rw [w64_id (by omega) (by omega)]; omega
          have c2 : 0 ≤ k ∧ k ≤ ds.length := by omega
          have c3 : (0 : Int) ≤ (k : Int) := by omega
          have tw : win ds 0 (k - 0) = ds.take k := win_take _ _
          have hlt : (ds.take k).length < 4611686018427387904 := by simp; omega
          simp only [i_IsTriangulation_L4_step, T.run, c0, c1, c2, c3, decide_true, if_true, and_self, Int.toNat_natCast, g0, Option.bind_some, i_isDiagonal_eq n (gD ds k) (by omega) (by omega), tw, slices_ContainsFunc_Diagonal__i_IsTriangulation_1_eq _ (gD ds k) hlt, w1, badT]
          rcases Bool.eq_false_or_eq_true (inDg n (gD ds k)) with hd | hd
          rotate_left
          · simp [hd]
          · simp only [hd]
            by_cases hk0 : 0 < k
            · have w2 : w64 ((k : Int) - 1) = ((k - 1 : Nat) : Int) := by rw [w64_id (by omega) (by omega)]; omega
              have c4 : (0 : Int) ≤ ((k - 1 : Nat) : Int) ∧ ((k - 1 : Nat) : Int) < (ds.length : Int) := by omega
              have g1 := gD_some (show k - 1 < ds.length by omega)
              have c5 : (k : Int) > 0 := by omega
              simp only [w2, c4, c5, decide_true, if_true, and_self, Int.toNat_natCast, g1, Option.bind_some, i_compareDiagonals_eq, cmpD_ge, hk0]
              cases ltD (gD ds (k - 1)) (gD ds k) <;> simp
              cases (ds.take k).any (crossD (gD ds k)) <;> simp
            · have c5 : ¬ (k : Int) > 0 := by omega
              simp only [c5, decide_false, hk0, if_false]
              cases (ds.take k).any (crossD (gD ds k)) <;> simp)
        (by simp [i_IsTriangulation_L4_step, T.run])
      rw [show ((0 : Nat) : Int) = 0 from rfl] at h
      have he' : ((ds.length : Int) != n - 3) = false := by simp [he]
      simp only [i_IsTriangulation_L4, h, he', decide_eq_true he]
      cases (List.range ds.length).any (badT n ds) <;> simp
    · simp [he]


end Go.Proofs.W
