/- Functions of the program, walked, and what they compute. -/
import Derived.Test.YtaanfhjiihekeaaDoorWtWk2
set_option linter.unusedVariables false
set_option linter.unusedSimpArgs false
set_option maxRecDepth 100000
set_option maxHeartbeats 4000000
namespace Go.Proofs.W
open Go Go.Gm Go.Proofs
open Go.RowKit Go.Shelf
def l_FnWordsTold_sh : FSh := ⟨[(.one (.sl (.int .u8) false true)), (.one (.sl (.int .u8) false true))], []⟩

def l_FnWordsTold_C9_sh : LSh := ⟨(fun ex => match ex with | .norm => [(1, none)] | .exit i => [] | .ret => [(4, none)]), [(1, (.one (.sl (.int .u8) false true))), (5, (.one .ss)), (6, (.one (.pf 0 0 0))), (7, (.one .sb))], [(.rcd 0 [(.si .i64), (.si .i64), (.si .i64), (.si .i64)])], [⟨.ret, [(4, (.one .sb))], []⟩, ⟨.norm, [(1, (.one (.sl (.int .u8) false true)))], []⟩], [], []⟩
noncomputable def l_FnWordsTold_C9_step : ((List (Int) × List UInt8 × Unit × Bool) × (Int × Int × Int × Int)) → T (Bool ⊕ List (Int)) := fun ((more, word, (), ok), (m_0, m_1, m_2, m_3)) =>
  (.test ok
  (.sub (i_WordOfMatrix (m_0, (m_1, (m_2, m_3)))) fun z0 =>
   (.test (! z0.2)
   (.ret (Sum.inl false))
   (.test (! (z0.1 == word))
    (.ret (Sum.inl false))
    (.test (decide (m_0 < 0))
     (.ret (Sum.inl false))
     (.test (decide (m_1 < 0))
      (.ret (Sum.inl false))
      (.test (decide (m_2 < 0))
       (.ret (Sum.inl false))
       (.test (decide (m_3 < 0))
        (.ret (Sum.inl false))
        (.test true
         (.test (decide (0 ≤ (w64 (Int.tdiv ((List.length word) : Int) (2 : Int)))))
          (.test (decide ((0 ≤ (Int.toNat (w64 (Int.tdiv ((List.length word) : Int) (2 : Int))))) ∧ ((Int.toNat (w64 (Int.tdiv ((List.length word) : Int) (2 : Int)))) ≤ (List.length word))))
           (.sub (i_MatrixOfWord (win word 0 ((Int.toNat (w64 (Int.tdiv ((List.length word) : Int) (2 : Int)))) - 0))) fun z1 =>
            (.test (decide (0 ≤ (w64 (Int.tdiv ((List.length word) : Int) (2 : Int)))))
            (.test (decide (((Int.toNat (w64 (Int.tdiv ((List.length word) : Int) (2 : Int)))) ≤ (List.length word)) ∧ ((List.length word) ≤ (List.length word))))
             (.sub (i_MatrixOfWord (win word (Int.toNat (w64 (Int.tdiv ((List.length word) : Int) (2 : Int)))) ((List.length word) - (Int.toNat (w64 (Int.tdiv ((List.length word) : Int) (2 : Int))))))) fun z2 =>
              (.sub (i_TimesMatrix ((z1.1.1, (z1.1.2.1, (z1.1.2.2.1, z1.1.2.2.2))), (z2.1.1, (z2.1.2.1, (z2.1.2.2.1, z2.1.2.2.2))))) fun z3 =>
              (.test (! z1.2)
              (.ret (Sum.inl false))
              (.test (! z2.2)
               (.ret (Sum.inl false))
               (.test (! z3.2)
                (.ret (Sum.inl false))
                (.test (! ((z3.1.1 == m_0) && ((z3.1.2.1 == m_1) && ((z3.1.2.2.1 == m_2) && ((z3.1.2.2.2 == m_3) && true)))))
                 (.ret (Sum.inl false))
                 (.ret (Sum.inr more))))))))
             .fail)
            .fail))
           .fail)
          .fail)
         .fail))))))))
  (.ret (Sum.inr more)))
noncomputable def l_FnWordsTold_C9 (v : ((List (Int) × List UInt8 × Unit × Bool) × (Int × Int × Int × Int))) : Option (Bool ⊕ List (Int)) := (l_FnWordsTold_C9_step v).run

def l_FnWordsTold_C27_sh : LSh := ⟨(fun ex => match ex with | .norm => [(24, none), (25, none), (26, none), (27, none), (28, none)] | .exit i => [] | .ret => [(4, none)]), [(19, (.one (.pf 0 0 0))), (20, (.one .ss)), (21, (.one .sb)), (24, (.one (.pf 1 0 0))), (25, (.one (.pf 2 0 0))), (26, (.one (.si .i64))), (27, (.one (.si .i64))), (28, (.one .sb))], [(.rcd 0 [(.si .i64), (.si .i64), (.si .i64), (.si .i64)]), (.rcd 0 [(.si .i64), (.si .i64), (.si .i64), (.si .i64)]), (.rcd 0 [(.si .i64), (.si .i64)])], [⟨.ret, [(4, (.one .sb))], []⟩, ⟨.norm, [(24, (.one (.pf 0 0 0))), (25, (.one (.pf 1 0 0))), (26, (.one (.si .i64))), (27, (.one (.si .i64))), (28, (.one .sb))], [(.rcd 0 [(.si .i64), (.si .i64), (.si .i64), (.si .i64)]), (.rcd 0 [(.si .i64), (.si .i64)])]⟩], [], []⟩
noncomputable def l_FnWordsTold_C27_step : ((Unit × List UInt8 × Bool × Unit × Unit × Int × Int × Bool) × ((Int × Int × Int × Int) × (Int × Int × Int × Int) × (Int × Int))) → T (Bool ⊕ ((Unit × Unit × Int × Int × Bool) × ((Int × Int × Int × Int) × (Int × Int)))) := fun (((), told, one, (), (), num, den, three), ((k_0, k_1, k_2, k_3), (p_0, p_1, p_2, p_3), (f_0, f_1))) =>
  (.test one
  (.sub (i_MatrixOfWord told) fun z0 =>
   (.test (! z0.2)
   (.ret (Sum.inl false))
   (.test (! ((z0.1.1 == k_0) && ((z0.1.2.1 == k_1) && ((z0.1.2.2.1 == k_2) && ((z0.1.2.2.2 == k_3) && true)))))
    (.ret (Sum.inl false))
    (.ret (Sum.inr (((), ((), (num, (den, three)))), ((p_0, (p_1, (p_2, p_3))), (f_0, f_1))))))))
  (.ret (Sum.inr (((), ((), (num, (den, three)))), ((p_0, (p_1, (p_2, p_3))), (f_0, f_1))))))
noncomputable def l_FnWordsTold_C27 (v : ((Unit × List UInt8 × Bool × Unit × Unit × Int × Int × Bool) × ((Int × Int × Int × Int) × (Int × Int × Int × Int) × (Int × Int)))) : Option (Bool ⊕ ((Unit × Unit × Int × Int × Bool) × ((Int × Int × Int × Int) × (Int × Int)))) := (l_FnWordsTold_C27_step v).run

def l_FnWordsTold_R33_sh : LSh := ⟨(fun ex => match ex with | .norm => [(24, none), (25, none), (26, none), (27, none), (221, none)] | .exit i => [] | .ret => [(4, none)]), [(24, (.one (.pf 0 0 0))), (25, (.one (.pf 1 0 0))), (26, (.one (.si .i64))), (27, (.one (.si .i64)))], [(.rcd 0 [(.si .i64), (.si .i64), (.si .i64), (.si .i64)]), (.rcd 0 [(.si .i64), (.si .i64)])], [⟨.norm, [(24, (.one (.pf 0 0 0))), (25, (.one (.pf 1 0 0))), (26, (.one (.si .i64))), (27, (.one (.si .i64))), (221, (.one .sb))], [(.rcd 0 [(.si .i64), (.si .i64), (.si .i64), (.si .i64)]), (.rcd 0 [(.si .i64), (.si .i64)])]⟩], [], []⟩
noncomputable def l_FnWordsTold_R33_step : ((Unit × Unit × Int × Int) × ((Int × Int × Int × Int) × (Int × Int))) → T ((Unit × Unit × Int × Int × Bool) × ((Int × Int × Int × Int) × (Int × Int))) := fun (((), (), num, den), ((p_0, p_1, p_2, p_3), (f_0, f_1))) =>
  (.test (decide (num ≥ 0))
  (.test (decide (num ≤ 1000000))
   (.ret (((), ((), (num, (den, (decide (den ≤ 1000000)))))), ((p_0, (p_1, (p_2, p_3))), (f_0, f_1))))
   (.ret (((), ((), (num, (den, false)))), ((p_0, (p_1, (p_2, p_3))), (f_0, f_1)))))
  (.ret (((), ((), (num, (den, false)))), ((p_0, (p_1, (p_2, p_3))), (f_0, f_1)))))
noncomputable def l_FnWordsTold_R33 (v : ((Unit × Unit × Int × Int) × ((Int × Int × Int × Int) × (Int × Int)))) : Option ((Unit × Unit × Int × Int × Bool) × ((Int × Int × Int × Int) × (Int × Int))) := (l_FnWordsTold_R33_step v).run

def l_FnWordsTold_fo : List FO := [⟨[(.one .sb)], []⟩]
noncomputable def l_FnWordsTold_t : (List (Int) × List (Int)) → T Bool := fun (code, more) =>
  (.sub (l_big (code, more)) fun z0 =>
  (.test z0
  (.ret true)
  (.sub (s_DrawMatrixOfWord code) fun z1 =>
   (.sub (i_MatrixOfWord z1) fun z2 =>
   (.sub (s_MatrixOfWord z1) fun z3 =>
   (.test (! (z2.2 == z3.2))
   (.ret false)
   (.test (! ((z2.1.1 == z3.1.1) && ((z2.1.2.1 == z3.1.2.1) && ((z2.1.2.2.1 == z3.1.2.2.1) && ((z2.1.2.2.2 == z3.1.2.2.2) && true)))))
    (.ret false)
    (.sub (l_FnWordsTold_C9 ((more, (z1, ((), z2.2))), (z2.1.1, (z2.1.2.1, (z2.1.2.2.1, z2.1.2.2.2))))) fun z4 =>
     (.test (Sum.isLeft z4)
     (.sub (Sum.getLeft? z4) fun z5 =>
      (.ret z5))
     (.sub (Sum.getRight? z4) fun z6 =>
      (.sub (s_DrawWordOfMatrix z6) fun z7 =>
      (.sub (i_WordOfMatrix (z7.1, (z7.2.1, (z7.2.2.1, z7.2.2.2)))) fun z8 =>
      (.sub (s_WordOfMatrix (z7.1, (z7.2.1, (z7.2.2.1, z7.2.2.2)))) fun z9 =>
      (.sub (s_DrawMoveFraction z6) fun z10 =>
      (.sub (i_MoveFraction ((z10.1.1, (z10.1.2.1, (z10.1.2.2.1, z10.1.2.2.2))), (z10.2.1, z10.2.2))) fun z11 =>
      (.sub (s_MoveFraction ((z10.1.1, (z10.1.2.1, (z10.1.2.2.1, z10.1.2.2.2))), (z10.2.1, z10.2.2))) fun z12 =>
      (.test (! (z8.2 == z9.2))
      (.ret false)
      (.test (! (z8.1 == z9.1))
       (.ret false)
       (.test (! (z11.2.2 == z12.2.2))
        (.ret false)
        (.test (z11.1 != z12.1)
         (.ret false)
         (.test (z11.2.1 != z12.2.1)
          (.ret false)
          (.sub (l_FnWordsTold_C27 (((), (z8.1, (z8.2, ((), ((), (z11.1, (z11.2.1, z11.2.2))))))), ((z7.1, (z7.2.1, (z7.2.2.1, z7.2.2.2))), ((z10.1.1, (z10.1.2.1, (z10.1.2.2.1, z10.1.2.2.2))), (z10.2.1, z10.2.2))))) fun z13 =>
           (.test (Sum.isLeft z13)
           (.sub (Sum.getLeft? z13) fun z14 =>
            (.ret z14))
           (.sub (Sum.getRight? z13) fun z15 =>
            (.test z15.1.2.2.2.2
            (.test (decide (z15.1.2.2.2.1 < 0))
             (.ret false)
             (.test (z15.1.2.2.2.1 == 0)
              (.test (z15.1.2.2.1 != 1)
               (.ret false)
               (.sub (l_FnWordsTold_R33 (((), ((), (z15.1.2.2.1, z15.1.2.2.2.1))), ((z15.2.1.1, (z15.2.1.2.1, (z15.2.1.2.2.1, z15.2.1.2.2.2))), (z15.2.2.1, z15.2.2.2)))) fun z16 =>
                (.test z16.1.2.2.2.2
                (.sub (i_InverseMatrix (z16.2.1.1, (z16.2.1.2.1, (z16.2.1.2.2.1, z16.2.1.2.2.2)))) fun z17 =>
                 (.sub (i_MoveFraction ((z17.1.1, (z17.1.2.1, (z17.1.2.2.1, z17.1.2.2.2))), (z16.1.2.2.1, z16.1.2.2.2.1))) fun z18 =>
                 (.sub (i_IsFraction (z16.1.2.2.1, z16.1.2.2.2.1)) fun z19 =>
                 (.test (! z19)
                 (.ret false)
                 (.test (! z17.2)
                  (.ret false)
                  (.test (! z18.2.2)
                   (.ret false)
                   (.test (z18.1 != z16.2.2.1)
                    (.ret false)
                    (.test (z18.2.1 != z16.2.2.2)
                     (.ret false)
                     (.ret true)))))))))
                (.ret true))))
              (.sub (l_FnWordsTold_R33 (((), ((), (z15.1.2.2.1, z15.1.2.2.2.1))), ((z15.2.1.1, (z15.2.1.2.1, (z15.2.1.2.2.1, z15.2.1.2.2.2))), (z15.2.2.1, z15.2.2.2)))) fun z20 =>
               (.test z20.1.2.2.2.2
               (.sub (i_InverseMatrix (z20.2.1.1, (z20.2.1.2.1, (z20.2.1.2.2.1, z20.2.1.2.2.2)))) fun z21 =>
                (.sub (i_MoveFraction ((z21.1.1, (z21.1.2.1, (z21.1.2.2.1, z21.1.2.2.2))), (z20.1.2.2.1, z20.1.2.2.2.1))) fun z22 =>
                (.sub (i_IsFraction (z20.1.2.2.1, z20.1.2.2.2.1)) fun z23 =>
                (.test (! z23)
                (.ret false)
                (.test (! z21.2)
                 (.ret false)
                 (.test (! z22.2.2)
                  (.ret false)
                  (.test (z22.1 != z20.2.2.1)
                   (.ret false)
                   (.test (z22.2.1 != z20.2.2.2)
                    (.ret false)
                    (.ret true)))))))))
               (.ret true)))))
            (.ret true))))))))))))))))))))))))))
noncomputable def l_FnWordsTold (v : (List (Int) × List (Int))) : Option Bool := (l_FnWordsTold_t v).run
noncomputable def l_FnWordsTold_E : TEnv := (((((((((((((E0.add1 n_l_big l_big_sh l_big_fo l_big).add1 n_s_DrawMatrixOfWord s_DrawMatrixOfWord_sh s_DrawMatrixOfWord_fo s_DrawMatrixOfWord).add1 n_i_MatrixOfWord i_MatrixOfWord_sh i_MatrixOfWord_fo i_MatrixOfWord).add1 n_s_MatrixOfWord s_MatrixOfWord_sh s_MatrixOfWord_fo s_MatrixOfWord).add1 n_i_WordOfMatrix i_WordOfMatrix_sh i_WordOfMatrix_fo i_WordOfMatrix).add1 n_i_TimesMatrix i_TimesMatrix_sh i_TimesMatrix_fo i_TimesMatrix).add1 n_s_DrawWordOfMatrix s_DrawWordOfMatrix_sh s_DrawWordOfMatrix_fo s_DrawWordOfMatrix).add1 n_s_WordOfMatrix s_WordOfMatrix_sh s_WordOfMatrix_fo s_WordOfMatrix).add1 n_s_DrawMoveFraction s_DrawMoveFraction_sh s_DrawMoveFraction_fo s_DrawMoveFraction).add1 n_i_MoveFraction i_MoveFraction_sh i_MoveFraction_fo i_MoveFraction).add1 n_s_MoveFraction s_MoveFraction_sh s_MoveFraction_fo s_MoveFraction).add1 n_i_InverseMatrix i_InverseMatrix_sh i_InverseMatrix_fo i_InverseMatrix).add1 n_i_IsFraction i_IsFraction_sh i_IsFraction_fo i_IsFraction)
theorem l_FnWordsTold_Eok : (l_FnWordsTold_E).OK := (((((((((((((E0ok.add1 l_big_ok).add1 s_DrawMatrixOfWord_ok).add1 i_MatrixOfWord_ok).add1 s_MatrixOfWord_ok).add1 i_WordOfMatrix_ok).add1 i_TimesMatrix_ok).add1 s_DrawWordOfMatrix_ok).add1 s_WordOfMatrix_ok).add1 s_DrawMoveFraction_ok).add1 i_MoveFraction_ok).add1 s_MoveFraction_ok).add1 i_InverseMatrix_ok).add1 i_IsFraction_ok)
noncomputable def l_FnWordsTold_told : Nat → Option SealT := fun id => if id = 1000009 then some (LSh.cut l_FnWordsTold_C9_sh 0 [(1, none), (5, none), (6, none), (7, none)] (l_FnWordsTold_C9)) else if id = 1000027 then some (LSh.cut l_FnWordsTold_C27_sh 0 [(19, none), (20, none), (21, none), (24, none), (25, none), (26, none), (27, none), (28, none)] (l_FnWordsTold_C27)) else if id = 2000033 then some (LSh.cut l_FnWordsTold_R33_sh 0 [(24, none), (25, none), (26, none), (27, none)] (l_FnWordsTold_R33)) else none
theorem l_FnWordsTold_C9_ok : CutOK Tryd.prog 0 (cutAt (loopAt (bodyOf fn_l_FnWordsTold) []) 10) (LSh.cut l_FnWordsTold_C9_sh 0 [(1, none), (5, none), (6, none), (7, none)] (l_FnWordsTold_C9)) :=
  cut_ok (E := l_FnWordsTold_E) (l_FnWordsTold_Eok) (told := l_FnWordsTold_told) (l := l_FnWordsTold_C9_sh) (head := [(1, none), (5, none), (6, none), (7, none)]) (F := l_FnWordsTold_C9_step) (loopsOK_of2 (ls := []) (cs := [cutAt (loopAt (bodyOf fn_l_FnWordsTold) []) 11, cutAt (loopAt (bodyOf fn_l_FnWordsTold) []) 12, cutAt (loopAt (bodyOf fn_l_FnWordsTold) []) 13, cutAt (loopAt (bodyOf fn_l_FnWordsTold) []) 14, cutAt (loopAt (bodyOf fn_l_FnWordsTold) []) 15, cutAt (loopAt (bodyOf fn_l_FnWordsTold) []) 16, cutAt (loopAt (bodyOf fn_l_FnWordsTold) []) 17, cutAt (loopAt (bodyOf fn_l_FnWordsTold) []) 18, cutAt (loopAt (bodyOf fn_l_FnWordsTold) []) 19, cutAt (loopAt (bodyOf fn_l_FnWordsTold) []) 20, cutAt (loopAt (bodyOf fn_l_FnWordsTold) []) 21]) (by kernel_rfl) trivial (by kernel_rfl) ⟨.inl (by kernel_rfl), ⟨.inl (by kernel_rfl), ⟨.inl (by kernel_rfl), ⟨.inl (by kernel_rfl), ⟨.inl (by kernel_rfl), ⟨.inl (by kernel_rfl), ⟨.inl (by kernel_rfl), ⟨.inl (by kernel_rfl), ⟨.inl (by kernel_rfl), ⟨.inl (by kernel_rfl), ⟨.inl (by kernel_rfl), trivial⟩⟩⟩⟩⟩⟩⟩⟩⟩⟩⟩) (fun v => by kernel_rfl)
theorem l_FnWordsTold_C27_ok : CutOK Tryd.prog 0 (cutAt (loopAt (bodyOf fn_l_FnWordsTold) []) 31) (LSh.cut l_FnWordsTold_C27_sh 0 [(19, none), (20, none), (21, none), (24, none), (25, none), (26, none), (27, none), (28, none)] (l_FnWordsTold_C27)) :=
  cut_ok (E := l_FnWordsTold_E) (l_FnWordsTold_Eok) (told := l_FnWordsTold_told) (l := l_FnWordsTold_C27_sh) (head := [(19, none), (20, none), (21, none), (24, none), (25, none), (26, none), (27, none), (28, none)]) (F := l_FnWordsTold_C27_step) (loopsOK_of2 (ls := []) (cs := [cutAt (loopAt (bodyOf fn_l_FnWordsTold) []) 32, cutAt (loopAt (bodyOf fn_l_FnWordsTold) []) 33, cutAt (loopAt (bodyOf fn_l_FnWordsTold) []) 34, cutAt (loopAt (bodyOf fn_l_FnWordsTold) []) 35]) (by kernel_rfl) trivial (by kernel_rfl) ⟨.inl (by kernel_rfl), ⟨.inl (by kernel_rfl), ⟨.inl (by kernel_rfl), ⟨.inl (by kernel_rfl), trivial⟩⟩⟩⟩) (fun v => by kernel_rfl)
theorem l_FnWordsTold_R33_ok : CutOK Tryd.prog 0 (cutAt (loopAt (bodyOf fn_l_FnWordsTold) []) 41) (LSh.cut l_FnWordsTold_R33_sh 0 [(24, none), (25, none), (26, none), (27, none)] (l_FnWordsTold_R33)) :=
  cut_ok (E := l_FnWordsTold_E) (l_FnWordsTold_Eok) (told := l_FnWordsTold_told) (l := l_FnWordsTold_R33_sh) (head := [(24, none), (25, none), (26, none), (27, none)]) (F := l_FnWordsTold_R33_step) (loopsOK_of2 (ls := []) (cs := []) (by kernel_rfl) trivial (by kernel_rfl) trivial) (fun v => by kernel_rfl)
theorem l_FnWordsTold_ok : FOK Tryd.prog n_l_FnWordsTold l_FnWordsTold_sh l_FnWordsTold_fo l_FnWordsTold :=
  fn_ok (E := l_FnWordsTold_E) (l_FnWordsTold_Eok) (told := l_FnWordsTold_told) (fl := []) (c := bodyOf fn_l_FnWordsTold) (s := l_FnWordsTold_sh) (l := l_FnWordsTold_fo) (tree := l_FnWordsTold_t) fnat_l_FnWordsTold (by kernel_rfl) (by kernel_rfl) (by kernel_rfl) (loopsOK_of2 (ls := []) (cs := [cutAt (loopAt (bodyOf fn_l_FnWordsTold) []) 0, cutAt (loopAt (bodyOf fn_l_FnWordsTold) []) 1, cutAt (loopAt (bodyOf fn_l_FnWordsTold) []) 2, cutAt (loopAt (bodyOf fn_l_FnWordsTold) []) 3, cutAt (loopAt (bodyOf fn_l_FnWordsTold) []) 4, cutAt (loopAt (bodyOf fn_l_FnWordsTold) []) 5, cutAt (loopAt (bodyOf fn_l_FnWordsTold) []) 6, cutAt (loopAt (bodyOf fn_l_FnWordsTold) []) 7, cutAt (loopAt (bodyOf fn_l_FnWordsTold) []) 8, cutAt (loopAt (bodyOf fn_l_FnWordsTold) []) 9, cutAt (loopAt (bodyOf fn_l_FnWordsTold) []) 10, cutAt (loopAt (bodyOf fn_l_FnWordsTold) []) 11, cutAt (loopAt (bodyOf fn_l_FnWordsTold) []) 12, cutAt (loopAt (bodyOf fn_l_FnWordsTold) []) 13, cutAt (loopAt (bodyOf fn_l_FnWordsTold) []) 14, cutAt (loopAt (bodyOf fn_l_FnWordsTold) []) 15, cutAt (loopAt (bodyOf fn_l_FnWordsTold) []) 16, cutAt (loopAt (bodyOf fn_l_FnWordsTold) []) 17, cutAt (loopAt (bodyOf fn_l_FnWordsTold) []) 18, cutAt (loopAt (bodyOf fn_l_FnWordsTold) []) 19, cutAt (loopAt (bodyOf fn_l_FnWordsTold) []) 20, cutAt (loopAt (bodyOf fn_l_FnWordsTold) []) 21, cutAt (loopAt (bodyOf fn_l_FnWordsTold) []) 22, cutAt (loopAt (bodyOf fn_l_FnWordsTold) []) 23, cutAt (loopAt (bodyOf fn_l_FnWordsTold) []) 24, cutAt (loopAt (bodyOf fn_l_FnWordsTold) []) 25, cutAt (loopAt (bodyOf fn_l_FnWordsTold) []) 26, cutAt (loopAt (bodyOf fn_l_FnWordsTold) []) 27, cutAt (loopAt (bodyOf fn_l_FnWordsTold) []) 28, cutAt (loopAt (bodyOf fn_l_FnWordsTold) []) 29, cutAt (loopAt (bodyOf fn_l_FnWordsTold) []) 30, cutAt (loopAt (bodyOf fn_l_FnWordsTold) []) 31, cutAt (loopAt (bodyOf fn_l_FnWordsTold) []) 32, cutAt (loopAt (bodyOf fn_l_FnWordsTold) []) 33, cutAt (loopAt (bodyOf fn_l_FnWordsTold) []) 34, cutAt (loopAt (bodyOf fn_l_FnWordsTold) []) 35, cutAt (loopAt (bodyOf fn_l_FnWordsTold) []) 36, cutAt (loopAt (bodyOf fn_l_FnWordsTold) []) 37, cutAt (loopAt (bodyOf fn_l_FnWordsTold) []) 38, cutAt (loopAt (bodyOf fn_l_FnWordsTold) []) 39, cutAt (loopAt (bodyOf fn_l_FnWordsTold) []) 40, cutAt (loopAt (bodyOf fn_l_FnWordsTold) []) 41, cutAt (loopAt (bodyOf fn_l_FnWordsTold) []) 42, cutAt (loopAt (bodyOf fn_l_FnWordsTold) []) 43, cutAt (loopAt (bodyOf fn_l_FnWordsTold) []) 44, cutAt (loopAt (bodyOf fn_l_FnWordsTold) []) 45, cutAt (loopAt (bodyOf fn_l_FnWordsTold) []) 46, cutAt (loopAt (bodyOf fn_l_FnWordsTold) []) 47]) (by kernel_rfl) trivial (by kernel_rfl) ⟨.inl (by kernel_rfl), ⟨.inl (by kernel_rfl), ⟨.inl (by kernel_rfl), ⟨.inl (by kernel_rfl), ⟨.inl (by kernel_rfl), ⟨.inl (by kernel_rfl), ⟨.inl (by kernel_rfl), ⟨.inl (by kernel_rfl), ⟨.inl (by kernel_rfl), ⟨.inl (by kernel_rfl), ⟨.inr ⟨_, by kernel_rfl, l_FnWordsTold_C9_ok⟩, ⟨.inl (by kernel_rfl), ⟨.inl (by kernel_rfl), ⟨.inl (by kernel_rfl), ⟨.inl (by kernel_rfl), ⟨.inl (by kernel_rfl), ⟨.inl (by kernel_rfl), ⟨.inl (by kernel_rfl), ⟨.inl (by kernel_rfl), ⟨.inl (by kernel_rfl), ⟨.inl (by kernel_rfl), ⟨.inl (by kernel_rfl), ⟨.inl (by kernel_rfl), ⟨.inl (by kernel_rfl), ⟨.inl (by kernel_rfl), ⟨.inl (by kernel_rfl), ⟨.inl (by kernel_rfl), ⟨.inl (by kernel_rfl), ⟨.inl (by kernel_rfl), ⟨.inl (by kernel_rfl), ⟨.inl (by kernel_rfl), ⟨.inr ⟨_, by kernel_rfl, l_FnWordsTold_C27_ok⟩, ⟨.inl (by kernel_rfl), ⟨.inl (by kernel_rfl), ⟨.inl (by kernel_rfl), ⟨.inl (by kernel_rfl), ⟨.inl (by kernel_rfl), ⟨.inl (by kernel_rfl), ⟨.inl (by kernel_rfl), ⟨.inl (by kernel_rfl), ⟨.inl (by kernel_rfl), ⟨.inr ⟨_, by kernel_rfl, l_FnWordsTold_R33_ok⟩, ⟨.inl (by kernel_rfl), ⟨.inl (by kernel_rfl), ⟨.inl (by kernel_rfl), ⟨.inl (by kernel_rfl), ⟨.inl (by kernel_rfl), ⟨.inl (by kernel_rfl), trivial⟩⟩⟩⟩⟩⟩⟩⟩⟩⟩⟩⟩⟩⟩⟩⟩⟩⟩⟩⟩⟩⟩⟩⟩⟩⟩⟩⟩⟩⟩⟩⟩⟩⟩⟩⟩⟩⟩⟩⟩⟩⟩⟩⟩⟩⟩⟩⟩) (fun v => by kernel_rfl)

theorem DrawMatrixOfWord_ok {code : List Int} (h : bytesOK code) : ∃ w, s_DrawMatrixOfWord code = some w ∧ w.length ≤ 200 := by
  obtain ⟨w, c', e, hl, _⟩ := word_ok (cur0 h) (by omega)
  rw [s_DrawMatrixOfWord, s_DrawMatrixOfWord_t, T.run_sub, e, Option.bind_some, T.run_ret]
  exact ⟨_, rfl, hl⟩
theorem DrawWordOfMatrix_ok {code : List Int} (h : bytesOK code) : ∃ m, s_DrawWordOfMatrix code = some m := by
  obtain ⟨⟨a, b, c, d⟩, c', e, _⟩ := matrix_ok (cur0 h) (by omega)
  have e1 : s_DrawIsMatrix code = some (a, b, c, d) := by
    rw [s_DrawIsMatrix, s_DrawIsMatrix_t, T.run_sub, e, Option.bind_some, T.run_ret]
  rw [s_DrawWordOfMatrix, s_DrawWordOfMatrix_t, T.run_sub, e1, Option.bind_some, T.run_ret]
  exact ⟨_, rfl⟩
theorem DrawMoveFraction_ok {code : List Int} (h : bytesOK code) : ∃ m f, s_DrawMoveFraction code = some (m, f) := by
  obtain ⟨⟨a, b, c, d⟩, ⟨c0, c1, c2⟩, e, hc⟩ := matrix_ok (cur0 h) (by omega)
  obtain ⟨⟨p, q⟩, ⟨d0, d1, d2⟩, e2, _⟩ := fraction_ok hc (by omega)
  rw [s_DrawMoveFraction, s_DrawMoveFraction_t, T.run_sub, e, Option.bind_some, T.run_sub, e2, Option.bind_some, T.run_ret]
  exact ⟨_, _, rfl⟩
theorem beq4 (m : M4) : ((m.1 == m.1) && ((m.2.1 == m.2.1) && ((m.2.2.1 == m.2.2.1) && ((m.2.2.2 == m.2.2.2) && true)))) = true := by simp
theorem wordR_ok {w : List UInt8} (h : (wordR w).2 = true) : w.length ≤ 40 ∧ isW w = true ∧ good4 (wordG one4 w) = true ∧ (wordR w).1 = wordG one4 w := by
  unfold wordR at h ⊢
  split at h
  · rename_i h1
    rw [Bool.and_eq_true, decide_eq_true_eq] at h1
    split at h
    · rename_i h2
      rw [if_pos h2]
      refine ⟨by omega, h1.2, h2, ?_⟩
      rw [if_pos (by rw [Bool.and_eq_true, decide_eq_true_eq]; exact h1)]
    · cases h
  · cases h
theorem wordR_of {w : List UInt8} (h1 : w.length ≤ 40) (h2 : isW w = true) (h3 : good4 (wordG one4 w) = true) : wordR w = (wordG one4 w, true) := by
  unfold wordR
  rw [if_pos (by rw [Bool.and_eq_true, decide_eq_true_eq]; exact ⟨by omega, h2⟩), if_pos h3]
theorem l_FnWordsTold_C9_eq (more : List Int) (w : List UInt8) (hw : w.length ≤ 200) : l_FnWordsTold_C9 ((more, (w, ((), (wordR w).2))), (wordR w).1) = some (.inr more) := by
  cases h : (wordR w).2 with
  | false =>
    obtain ⟨a, b, c, d⟩ := (wordR w).1
    rfl
  | true =>
    obtain ⟨h1, h2, h3, h4⟩ := wordR_ok h
    rw [h4]
    have hn := wordG_wn w
    have hI := i_WordOfMatrix_eq (wordG one4 w)
    have hF := wordF_word w 40 [] h1 h2
    rw [List.nil_append] at hF
    rw [hF, if_pos ⟨h3, hn.1, hn.2.1, hn.2.2.1, hn.2.2.2.1⟩] at hI
    obtain ⟨k, hk⟩ : ∃ k : Nat, k = w.length / 2 := ⟨_, rfl⟩
    have hk2 : k ≤ w.length := by omega
    have wk : w64 (Int.tdiv ((w.length : Nat) : Int) (2 : Int)) = (k : Int) := by
      rw [Int.tdiv_eq_ediv_of_nonneg (by omega), w64_id (by omega) (by omega)]; omega
    have hsplit : wordG one4 w = mul4 (wordG one4 (w.take k)) (wordG one4 (w.drop k)) := by rw [← wordG_append, List.take_append_drop]
    have ha := wordG_wn (w.take k)
    have hb := wordG_wn (w.drop k)
    have hle := wn_le ha hb
    rw [← hsplit] at hle
    have ga := wn_good ha h3 hle.1
    have gb := wn_good hb h3 hle.2
    have hwa : isW (w.take k) = true := by unfold isW at h2 ⊢; exact List.all_eq_true.2 fun x hx => List.all_eq_true.1 h2 x (List.mem_of_mem_take hx)
    have hwb : isW (w.drop k) = true := by unfold isW at h2 ⊢; exact List.all_eq_true.2 fun x hx => List.all_eq_true.1 h2 x (List.mem_of_mem_drop hx)
    have e1 := i_MatrixOfWord_eq (w.take k)
    have e2 := i_MatrixOfWord_eq (w.drop k)
    rw [wordR_of (by rw [List.length_take]; omega) hwa ga] at e1
    rw [wordR_of (by rw [List.length_drop]; omega) hwb gb] at e2
    have e3 := i_TimesMatrix_eq (wordG one4 (w.take k)) (wordG one4 (w.drop k))
    rw [← hsplit, ga, gb, h3] at e3
    have k1 : win w 0 (k - 0) = w.take k := by unfold win; rw [List.drop_zero, Nat.sub_zero]
    have k2 : win w k (w.length - k) = w.drop k := by unfold win; exact List.take_of_length_le (by rw [List.length_drop]; omega)
    generalize wordG one4 (w.take k) = A at *
    generalize wordG one4 (w.drop k) = B at *
    generalize wordG one4 w = M at *
    obtain ⟨m0, m1, m2, m3⟩ := M
    simp only [wn] at hn
    rw [l_FnWordsTold_C9, l_FnWordsTold_C9_step, T.run_test, if_pos rfl, T.run_sub, show i_WordOfMatrix (m0, (m1, (m2, m3))) = _ from hI, Option.bind_some, T.run_test, if_neg (by simp), T.run_test, if_neg (by simp), T.run_test, if_neg (by rw [decide_eq_true_eq]; omega), T.run_test, if_neg (by rw [decide_eq_true_eq]; omega), T.run_test, if_neg (by rw [decide_eq_true_eq]; omega), T.run_test, if_neg (by rw [decide_eq_true_eq]; omega),
      T.run_test, if_pos rfl, wk, Int.toNat_natCast, T.run_test, if_pos (decide_eq_true (by omega)), T.run_test, if_pos (decide_eq_true (by omega)), T.run_sub, k1, e1, Option.bind_some, T.run_test, if_pos (decide_eq_true (by omega)), T.run_test, if_pos (decide_eq_true (by omega)), T.run_sub, k2, e2, Option.bind_some, T.run_sub]
    have e3' : i_TimesMatrix ((A.1, (A.2.1, (A.2.2.1, A.2.2.2))), (B.1, (B.2.1, (B.2.2.1, B.2.2.2)))) = some ((m0, m1, m2, m3), true) := by simpa using e3
    rw [e3', Option.bind_some, T.run_test, if_neg (by simp), T.run_test, if_neg (by simp), T.run_test, if_neg (by simp), T.run_test, if_neg (by simp), T.run_ret]
theorem l_FnWordsTold_C27_eq (k p : M4) (f : Int × Int) (told : List UInt8) (one : Bool) (num den : Int) (three : Bool) (h : one = true → wordR told = (k, true)) :
    l_FnWordsTold_C27 (((), (told, (one, ((), ((), (num, (den, three))))))), (k, (p, f))) = some (.inr (((), ((), (num, (den, three)))), (p, f))) := by
  obtain ⟨k0, k1, k2, k3⟩ := k
  obtain ⟨p0, p1, p2, p3⟩ := p
  obtain ⟨f0, f1⟩ := f
  rw [l_FnWordsTold_C27, l_FnWordsTold_C27_step, T.run_test]
  cases one with
  | false => rfl
  | true =>
    rw [if_pos rfl, T.run_sub, i_MatrixOfWord_eq, h rfl, Option.bind_some, T.run_test, if_neg (by simp), T.run_test, if_neg (by simp), T.run_ret]
theorem l_FnWordsTold_R33_eq (p : M4) (f : Int × Int) (x y : Int) : l_FnWordsTold_R33 (((), ((), (x, y))), (p, f)) = some (((), ((), (x, (y, decide (x ≥ 0) && (decide (x ≤ 1000000) && decide (y ≤ 1000000)))))), (p, f)) := by
  obtain ⟨p0, p1, p2, p3⟩ := p
  obtain ⟨f0, f1⟩ := f
  rw [l_FnWordsTold_R33, l_FnWordsTold_R33_step, T.run_test]
  cases decide (x ≥ 0) with
  | false => rfl
  | true =>
    rw [if_pos rfl, T.run_test]
    cases decide (x ≤ 1000000) with
    | false => rfl
    | true => rw [if_pos rfl, T.run_ret]; rfl
theorem l_FnWordsTold_true (v : List Int × List Int) (hs : smallL ASh.small [.one (.sl (.int .u8) false true), .one (.sl (.int .u8) false true)] v) : l_FnWordsTold v = some true := by
  obtain ⟨code, more⟩ := v
  have hb : ∀ l : List Int, (∀ x ∈ l, wfE (.int .u8) x) → bytesOK l := fun l h x hx => by
    have := h x hx
    simp [wfE, Lit.wf, IntKind.min, IntKind.max, IntKind.signed, IntKind.bits] at this
    omega
  have b1 : bytesOK code := hb code hs.1.2
  have b2 : bytesOK more := hb more hs.2.2
  obtain ⟨b, hbig⟩ : ∃ b, l_big (code, more) = some b := by
    rw [l_big, l_big_t, T.run_test]
    split
    · exact ⟨_, rfl⟩
    · exact ⟨_, rfl⟩
  obtain ⟨w, e1, hw⟩ := DrawMatrixOfWord_ok b1
  have i1 := i_MatrixOfWord_eq w
  have s1 := s_MatrixOfWord_eq w (by omega)
  have c9 := l_FnWordsTold_C9_eq more w hw
  generalize wordR w = W at *
  obtain ⟨⟨w0, w1, w2, w3⟩, ok⟩ := W
  obtain ⟨k, e2⟩ := DrawWordOfMatrix_ok b2
  have i2 := i_WordOfMatrix_eq k
  have s2 := s_WordOfMatrix_eq k
  obtain ⟨⟨told, one⟩, hR, hone⟩ : ∃ r : List UInt8 × Bool, i_WordOfMatrix k = some r ∧ (r.2 = true → wordR r.1 = (k, true)) := by
    refine ⟨_, i2, ?_⟩
    split
    · rename_i hc
      split
      · rename_i o ho
        intro _
        obtain ⟨u, h1, h2, h3, h4⟩ := wordF_back 40 k [] o ho
        rw [List.nil_append] at h1
        subst h1
        rw [h4]
        exact wordR_of h2 h3 (by rw [← h4]; exact hc.1)
      · intro h; cases h
    · intro h; cases h
  have s2 : s_WordOfMatrix k = i_WordOfMatrix k := s2.trans i2.symm
  rw [hR] at s2
  obtain ⟨p, f, e3⟩ := DrawMoveFraction_ok b2
  have i3 := i_MoveFraction_eq p f
  have s3 := s_MoveFraction_eq p f
  obtain ⟨⟨x, y, three⟩, hmv⟩ : ∃ r, r = mvR p f := ⟨_, rfl⟩
  rw [← hmv] at i3 s3
  have c27 := l_FnWordsTold_C27_eq k p f told one x y three hone
  have r33 := l_FnWordsTold_R33_eq p f x y
  have ivp := i_InverseMatrix_eq p
  have ifr := i_IsFraction_eq (x, y)
  have imv := i_MoveFraction_eq (invM p) (x, y)
  obtain ⟨k0, k1, k2, k3⟩ := k
  obtain ⟨p0, p1, p2, p3⟩ := p
  obtain ⟨f0, f1⟩ := f
  rw [l_FnWordsTold, l_FnWordsTold_t, T.run_sub, hbig, Option.bind_some, T.run_test]
  cases b with
  | true => rfl
  | false =>
    rw [if_neg (by simp), T.run_sub, e1, Option.bind_some, T.run_sub, i1, Option.bind_some, T.run_sub, s1, Option.bind_some, T.run_test, if_neg (by simp), T.run_test, if_neg (by simp), T.run_sub, c9, Option.bind_some, T.run_test, if_neg (by simp [Sum.isLeft]), T.run_sub]
    simp only [Sum.getRight?, Option.bind_some]
    rw [T.run_sub, e2, Option.bind_some, T.run_sub, hR, Option.bind_some, T.run_sub, s2, Option.bind_some, T.run_sub, e3, Option.bind_some, T.run_sub, i3, Option.bind_some, T.run_sub, s3, Option.bind_some, T.run_test, if_neg (by simp), T.run_test, if_neg (by simp), T.run_test, if_neg (by simp), T.run_test, if_neg (by simp), T.run_test, if_neg (by simp),
      T.run_sub, c27, Option.bind_some, T.run_test, if_neg (by simp [Sum.isLeft]), T.run_sub]
    simp only [Sum.getRight?, Option.bind_some]
    rw [T.run_test]
    cases three with
    | false => rfl
    | true =>
      obtain ⟨g1, g2, g3, g4⟩ := mv_back hmv.symm
      rw [g3, if_pos rfl] at ivp
      have tail : (T.sub (l_FnWordsTold_R33 (((), ((), (x, y))), ((p0, (p1, (p2, p3))), (f0, f1)))) fun z16 =>
                (.test z16.1.2.2.2.2
                (.sub (i_InverseMatrix (z16.2.1.1, (z16.2.1.2.1, (z16.2.1.2.2.1, z16.2.1.2.2.2)))) fun z17 =>
                 (.sub (i_MoveFraction ((z17.1.1, (z17.1.2.1, (z17.1.2.2.1, z17.1.2.2.2))), (z16.1.2.2.1, z16.1.2.2.2.1))) fun z18 =>
                 (.sub (i_IsFraction (z16.1.2.2.1, z16.1.2.2.2.1)) fun z19 =>
                 (.test (! z19)
                 (.ret false)
                 (.test (! z17.2)
                  (.ret false)
                  (.test (! z18.2.2)
                   (.ret false)
                   (.test (z18.1 != z16.2.2.1)
                    (.ret false)
                    (.test (z18.2.1 != z16.2.2.2)
                     (.ret false)
                     (.ret true)))))))))
                (.ret true))).run = some true := by
        rw [T.run_sub, r33, Option.bind_some, T.run_test]
        cases hd : decide (x ≥ 0) && (decide (x ≤ 1000000) && decide (y ≤ 1000000)) with
        | false => rfl
        | true =>
          rw [Bool.and_eq_true, Bool.and_eq_true, decide_eq_true_eq, decide_eq_true_eq, decide_eq_true_eq] at hd
          obtain ⟨q1, q2⟩ := g4 hd.1 hd.2.1 hd.2.2
          rw [q2] at imv
          rw [q1] at ifr
          have imv' : i_MoveFraction (((invM (p0, p1, p2, p3)).1, ((invM (p0, p1, p2, p3)).2.1, ((invM (p0, p1, p2, p3)).2.2.1, (invM (p0, p1, p2, p3)).2.2.2))), (x, y)) = some (f0, f1, true) := imv
          rw [if_pos rfl, T.run_sub, ivp, Option.bind_some, T.run_sub, imv', Option.bind_some, T.run_sub, ifr, Option.bind_some, T.run_test, if_neg (by simp), T.run_test, if_neg (by simp), T.run_test, if_neg (by simp), T.run_test, if_neg (by simp), T.run_test, if_neg (by simp), T.run_ret]
      rw [if_pos rfl, T.run_test, if_neg (by rw [decide_eq_true_eq]; omega), T.run_test]
      by_cases hy : y = 0
      · rw [if_pos (by rw [beq_iff_eq]; exact hy), T.run_test, if_neg (by simp only [g2 hy]; simp)]
        exact tail
      · rw [if_neg (by rw [beq_iff_eq]; exact hy)]
        exact tail


end Go.Proofs.W
