/- Functions of the program, walked, and what they compute. -/
import Derived.Test.YtcpjedchcfpbdaaLcWk3
set_option linter.unusedVariables false
set_option linter.unusedSimpArgs false
set_option maxRecDepth 100000
set_option maxHeartbeats 4000000
namespace Go.Proofs.W
open Go Go.Gm Go.Proofs
open Go.RowKit Go.Shelf
def l_FnListsCloseUp_sh : FSh := ⟨[(.one (.sl (.int .u8) false true)), (.one (.sl (.int .u8) false true))], []⟩

def l_FnListsCloseUp_L19_sh : LSh := ⟨(fun ex => match ex with | .norm => [(1, none), (5, none), (6, none), (18, none)] | .exit i => if i = 0 then [(1, none)] else [] | .ret => [(4, none)]), [(1, (.one (.sl (.int .u8) false true))), (5, (.one (.rw 0 0))), (6, (.one (.pf 1 0 0))), (18, (.one (.si .i64)))], [(.row 0 (.int .i64)), (.rcd 0 [(.si .i64), (.si .i64), (.si .i64), (.si .i64)])], [⟨.ret, [(4, (.one .sb))], []⟩, ⟨(.exit 0), [(1, (.one (.sl (.int .u8) false true)))], []⟩], [], []⟩
noncomputable def l_FnListsCloseUp_L19_step : ((List (Int) × Unit × Unit × Int) × (List (Int) × (Int × Int × Int × Int))) → T (((List (Int) × Unit × Unit × Int) × (List (Int) × (Int × Int × Int × Int))) ⊕ (Bool ⊕ List (Int))) := fun ((more, (), (), at'), (list, (m_0, m_1, m_2, m_3))) =>
  (.test (decide (at' < ((List.length list) : Int)))
  (.test (decide ((0 + (List.length list)) ≤ (List.length list)))
   (.sub (i_PutOne ((win list 0 (List.length list)), at')) fun z0 =>
    (.test (decide ((0 + (List.length z0.2)) ≤ (List.length z0.2)))
    (.sub (i_MatrixOfList (win z0.2 0 (List.length z0.2))) fun z1 =>
     (.test z0.1.2
     (.test (! z1.2)
      (.ret (Sum.inr (Sum.inl false)))
      (.test (! ((z1.1.1 == m_0) && ((z1.1.2.1 == m_1) && ((z1.1.2.2.1 == m_2) && ((z1.1.2.2.2 == m_3) && true)))))
       (.ret (Sum.inr (Sum.inl false)))
       (.test (decide ((0 = 0) ∧ ((List.length list) = (List.length list))))
        (.ret (Sum.inl ((more, ((), ((), (w64 (at' + 1))))), (list, (m_0, (m_1, (m_2, m_3)))))))
        .fail)))
     (.test (decide ((0 = 0) ∧ ((List.length list) = (List.length list))))
      (.ret (Sum.inl ((more, ((), ((), (w64 (at' + 1))))), (list, (m_0, (m_1, (m_2, m_3)))))))
      .fail)))
    .fail))
   .fail)
  (.ret (Sum.inr (Sum.inr more))))
noncomputable def l_FnListsCloseUp_L19 (v : ((List (Int) × Unit × Unit × Int) × (List (Int) × (Int × Int × Int × Int)))) : Option (Bool ⊕ List (Int)) := loopO (fun v => (l_FnListsCloseUp_L19_step v).run) v

def l_FnListsCloseUp_C9_sh : LSh := ⟨(fun ex => match ex with | .norm => [(1, none)] | .exit i => [] | .ret => [(4, none)]), [(1, (.one (.sl (.int .u8) false true))), (5, (.one (.rw 0 0))), (6, (.one (.pf 1 0 0))), (7, (.one .sb))], [(.row 0 (.int .i64)), (.rcd 0 [(.si .i64), (.si .i64), (.si .i64), (.si .i64)])], [⟨.ret, [(4, (.one .sb))], []⟩, ⟨.norm, [(1, (.one (.sl (.int .u8) false true)))], []⟩], [], []⟩
noncomputable def l_FnListsCloseUp_C9_step : ((List (Int) × Unit × Unit × Bool) × (List (Int) × (Int × Int × Int × Int))) → T (Bool ⊕ List (Int)) := fun ((more, (), (), ok), (list, (m_0, m_1, m_2, m_3))) =>
  (.test ok
  (.test (decide ((0 + (List.length list)) ≤ (List.length list)))
   (.sub (i_ContinuantOf (win list 0 (List.length list))) fun z0 =>
    (.test (! z0.2)
    (.ret (Sum.inl false))
    (.test (m_0 != z0.1)
     (.ret (Sum.inl false))
     (.sub (i_IsMatrix (m_0, (m_1, (m_2, m_3)))) fun z1 =>
      (.test (! z1)
      (.ret (Sum.inl false))
      (.test (decide (((List.length list) : Int) > 1))
       (.test (decide (0 ≤ (w64 (((List.length list) : Int) - 1))))
        (.test (decide ((0 ≤ (Int.toNat (w64 (((List.length list) : Int) - 1)))) ∧ ((Int.toNat (w64 (((List.length list) : Int) - 1))) ≤ (List.length list))))
         (.test (decide ((0 + ((Int.toNat (w64 (((List.length list) : Int) - 1))) - 0)) ≤ (List.length list)))
          (.sub (i_ContinuantOf (win list 0 ((Int.toNat (w64 (((List.length list) : Int) - 1))) - 0))) fun z2 =>
           (.test true
           (.test (decide ((1 ≤ (List.length list)) ∧ ((List.length list) ≤ (List.length list))))
            (.test (decide ((1 + ((List.length list) - 1)) ≤ (List.length list)))
             (.sub (i_ContinuantOf (win list 1 ((List.length list) - 1))) fun z3 =>
              (.test true
              (.test (decide (0 ≤ (w64 (((List.length list) : Int) - 1))))
               (.test (decide ((1 ≤ (Int.toNat (w64 (((List.length list) : Int) - 1)))) ∧ ((Int.toNat (w64 (((List.length list) : Int) - 1))) ≤ (List.length list))))
                (.test (decide ((1 + ((Int.toNat (w64 (((List.length list) : Int) - 1))) - 1)) ≤ (List.length list)))
                 (.sub (i_ContinuantOf (win list 1 ((Int.toNat (w64 (((List.length list) : Int) - 1))) - 1))) fun z4 =>
                  (.test (! z2.2)
                  (.ret (Sum.inl false))
                  (.test (! z3.2)
                   (.ret (Sum.inl false))
                   (.test (! z4.2)
                    (.ret (Sum.inl false))
                    (.test (m_1 != (w64 (0 - z2.1)))
                     (.ret (Sum.inl false))
                     (.test (m_2 != z3.1)
                      (.ret (Sum.inl false))
                      (.test (m_3 != (w64 (0 - z4.1)))
                       (.ret (Sum.inl false))
                       (.test (decide ((0 = 0) ∧ ((List.length list) = (List.length list))))
                        (.sub (l_FnListsCloseUp_L19 ((more, ((), ((), (1 : Int)))), (list, (m_0, (m_1, (m_2, m_3)))))) fun z5 =>
                         (.test (Sum.isLeft z5)
                         (.sub (Sum.getLeft? z5) fun z6 =>
                          (.ret (Sum.inl z6)))
                         (.sub (Sum.getRight? z5) fun z7 =>
                          (.ret (Sum.inr z7)))))
                        .fail))))))))
                 .fail)
                .fail)
               .fail)
              .fail))
             .fail)
            .fail)
           .fail))
          .fail)
         .fail)
        .fail)
       (.ret (Sum.inr more))))))))
   .fail)
  (.ret (Sum.inr more)))
noncomputable def l_FnListsCloseUp_C9 (v : ((List (Int) × Unit × Unit × Bool) × (List (Int) × (Int × Int × Int × Int)))) : Option (Bool ⊕ List (Int)) := (l_FnListsCloseUp_C9_step v).run

def l_FnListsCloseUp_L34_sh : LSh := ⟨(fun ex => match ex with | .norm => [(23, none), (24, none), (28, none), (29, none), (195, none), (196, none), (197, none)] | .exit i => if i = 2 then [(23, none), (24, none), (28, none), (29, none)] else [] | .ret => [(4, none)]), [(23, (.one (.sl (.int .i64) false true))), (24, (.one .sb)), (28, (.one .sb)), (29, (.one .sb)), (195, (.one (.sl (.int .i64) false true))), (196, (.one (.si .i64))), (197, (.one (.si .i64)))], [], [⟨(.exit 2), [(23, (.one (.sl (.int .i64) false true))), (24, (.one .sb)), (28, (.one .sb)), (29, (.one .sb))], []⟩], [], []⟩
noncomputable def l_FnListsCloseUp_L34_step : (List (Int) × Bool × Bool × Bool × List (Int) × Int × Int) → T ((List (Int) × Bool × Bool × Bool × List (Int) × Int × Int) ⊕ (List (Int) × Bool × Bool × Bool)) := fun (s, closes, quiddity, positive, t195, t196, t197) =>
  (.test (decide (t197 < t196))
  (.test (decide ((0 ≤ t197) ∧ (t197 < ((List.length t195) : Int))))
   (.sub (t195[(Int.toNat t197)]?) fun z0 =>
    (.test positive
    (.ret (Sum.inl (s, (closes, (quiddity, ((decide (z0 ≥ 1)), (t195, (t196, (w64 (t197 + 1))))))))))
    (.ret (Sum.inl (s, (closes, (quiddity, (false, (t195, (t196, (w64 (t197 + 1))))))))))))
   .fail)
  (.ret (Sum.inr (s, (closes, (quiddity, positive))))))
noncomputable def l_FnListsCloseUp_L34 (v : (List (Int) × Bool × Bool × Bool × List (Int) × Int × Int)) : Option (List (Int) × Bool × Bool × Bool) := loopO (fun v => (l_FnListsCloseUp_L34_step v).run) v

def l_FnListsCloseUp_R40_sh : LSh := ⟨(fun ex => match ex with | .norm => [(23, none), (234, none)] | .exit i => [] | .ret => [(4, none)]), [(23, (.one (.sl (.int .i64) false true))), (24, (.one .sb))], [], [⟨.norm, [(23, (.one (.sl (.int .i64) false true))), (234, (.one .sb))], []⟩], [], []⟩
noncomputable def l_FnListsCloseUp_R40_step : (List (Int) × Bool) → T (List (Int) × Bool) := fun (s, closes) =>
  (.test closes
  (.ret (s, (decide (((List.length s) : Int) > 0))))
  (.ret (s, false)))
noncomputable def l_FnListsCloseUp_R40 (v : (List (Int) × Bool)) : Option (List (Int) × Bool) := (l_FnListsCloseUp_R40_step v).run

def l_FnListsCloseUp_fo : List FO := [⟨[(.one .sb)], []⟩]
noncomputable def l_FnListsCloseUp_t : (List (Int) × List (Int)) → T Bool := fun (code, more) =>
  (.sub (l_big (code, more)) fun z0 =>
  (.test z0
  (.ret true)
  (.sub (s_DrawMatrixOfList code) fun z1 =>
   (.test (decide ((0 + (List.length z1.2)) ≤ (List.length z1.2)))
   (.sub (i_MatrixOfList (win z1.2 0 (List.length z1.2))) fun z2 =>
    (.test (decide ((0 + (List.length z1.2)) ≤ (List.length z1.2)))
    (.sub (s_MatrixOfList (win z1.2 0 (List.length z1.2))) fun z3 =>
     (.test (! (z2.2 == z3.2))
     (.ret false)
     (.test (! ((z2.1.1 == z3.1.1) && ((z2.1.2.1 == z3.1.2.1) && ((z2.1.2.2.1 == z3.1.2.2.1) && ((z2.1.2.2.2 == z3.1.2.2.2) && true)))))
      (.ret false)
      (.test (decide ((0 = 0) ∧ ((List.length z1.2) = (List.length z1.2))))
       (.sub (l_FnListsCloseUp_C9 ((more, ((), ((), z2.2))), (z1.2, (z2.1.1, (z2.1.2.1, (z2.1.2.2.1, z2.1.2.2.2)))))) fun z4 =>
        (.test (Sum.isLeft z4)
        (.sub (Sum.getLeft? z4) fun z5 =>
         (.ret z5))
        (.sub (Sum.getRight? z4) fun z6 =>
         (.sub (s_DrawClosesUp z6) fun z7 =>
         (.sub (i_ClosesUp z7) fun z8 =>
         (.sub (s_ClosesUp z7) fun z9 =>
         (.test (! (z8.2 == z9.2))
         (.ret false)
         (.test (! (z8.1 == z9.1))
          (.ret false)
          (.sub (i_IsTermList z7) fun z10 =>
           (.test (! (z8.2 == z10))
           (.ret false)
           (.test z8.2
            (.sub (i_IsQuiddity z7) fun z11 =>
             (.sub (l_FnListsCloseUp_L34 (z7, (z8.1, (z11, ((decide (((List.length z7) : Int) ≥ 3)), (z7, (((List.length z7) : Int), (0 : Int)))))))) fun z12 =>
             (.test z12.2.2.1
             (.test (! z12.2.1)
              (.ret false)
              (.test z12.2.2.2
               (.sub (l_dSum z12.1) fun z13 =>
                (.test (z13 == (w64 ((w64 (3 * ((List.length z12.1) : Int))) - 6)))
                (.test (! (z12.2.1 == z12.2.2.1))
                 (.ret false)
                 (.sub (l_FnListsCloseUp_R40 (z12.1, z12.2.1)) fun z14 =>
                  (.test z14.2
                  (.test true
                   (.test (decide ((1 ≤ (List.length z14.1)) ∧ ((List.length z14.1) ≤ (List.length z14.1))))
                    (.test true
                     (.test (decide ((2 * ((0 + (List.length (win z14.1 1 ((List.length z14.1) - 1)))) * 9)) ≤ 140737488355328))
                      (.test (decide (((0 : Int) ≤ (0 : Int)) ∧ (0 < ((List.length z14.1) : Int))))
                       (.sub (z14.1[0]?) fun z15 =>
                        (.test (decide (1 ≤ (List.length (List.set (List.replicate 1 (0 : Int)) 0 z15))))
                        (.test (decide ((0 + (0 + (List.length (win z14.1 1 ((List.length z14.1) - 1))))) ≤ (List.length ((win (List.replicate 0 (0 : Int)) 0 0) ++ (win z14.1 1 ((List.length z14.1) - 1))))))
                         (.test (decide ((2 * (((0 + (List.length (win z14.1 1 ((List.length z14.1) - 1)))) + (List.length (win (List.set (List.replicate 1 (0 : Int)) 0 z15) 0 1))) * 9)) ≤ 140737488355328))
                          (.test (decide ((0 + ((0 + (List.length (win z14.1 1 ((List.length z14.1) - 1)))) + (List.length (win (List.set (List.replicate 1 (0 : Int)) 0 z15) 0 1)))) ≤ (List.length ((win ((win (List.replicate 0 (0 : Int)) 0 0) ++ (win z14.1 1 ((List.length z14.1) - 1))) 0 (0 + (List.length (win z14.1 1 ((List.length z14.1) - 1))))) ++ (win (List.set (List.replicate 1 (0 : Int)) 0 z15) 0 1)))))
                           (.sub (i_ClosesUp (win ((win ((win (List.replicate 0 (0 : Int)) 0 0) ++ (win z14.1 1 ((List.length z14.1) - 1))) 0 (0 + (List.length (win z14.1 1 ((List.length z14.1) - 1))))) ++ (win (List.set (List.replicate 1 (0 : Int)) 0 z15) 0 1)) 0 ((0 + (List.length (win z14.1 1 ((List.length z14.1) - 1)))) + (List.length (win (List.set (List.replicate 1 (0 : Int)) 0 z15) 0 1))))) fun z16 =>
                            (.sub (l_dBack z14.1) fun z17 =>
                            (.test (decide ((0 + (List.length z17.2)) ≤ (List.length z17.2)))
                            (.sub (i_ClosesUp (win z17.2 0 (List.length z17.2))) fun z18 =>
                             (.test (! z16.2)
                             (.ret false)
                             (.test (! z16.1)
                              (.ret false)
                              (.test (! z18.2)
                               (.ret false)
                               (.test (! z18.1)
                                (.ret false)
                                (.ret true))))))
                            .fail)))
                           .fail)
                          .fail)
                         .fail)
                        .fail))
                       .fail)
                      .fail)
                     .fail)
                    .fail)
                   .fail)
                  (.ret true))))
                (.sub (l_FnListsCloseUp_R40 (z12.1, z12.2.1)) fun z19 =>
                 (.test z19.2
                 (.test true
                  (.test (decide ((1 ≤ (List.length z19.1)) ∧ ((List.length z19.1) ≤ (List.length z19.1))))
                   (.test true
                    (.test (decide ((2 * ((0 + (List.length (win z19.1 1 ((List.length z19.1) - 1)))) * 9)) ≤ 140737488355328))
                     (.test (decide (((0 : Int) ≤ (0 : Int)) ∧ (0 < ((List.length z19.1) : Int))))
                      (.sub (z19.1[0]?) fun z20 =>
                       (.test (decide (1 ≤ (List.length (List.set (List.replicate 1 (0 : Int)) 0 z20))))
                       (.test (decide ((0 + (0 + (List.length (win z19.1 1 ((List.length z19.1) - 1))))) ≤ (List.length ((win (List.replicate 0 (0 : Int)) 0 0) ++ (win z19.1 1 ((List.length z19.1) - 1))))))
                        (.test (decide ((2 * (((0 + (List.length (win z19.1 1 ((List.length z19.1) - 1)))) + (List.length (win (List.set (List.replicate 1 (0 : Int)) 0 z20) 0 1))) * 9)) ≤ 140737488355328))
                         (.test (decide ((0 + ((0 + (List.length (win z19.1 1 ((List.length z19.1) - 1)))) + (List.length (win (List.set (List.replicate 1 (0 : Int)) 0 z20) 0 1)))) ≤ (List.length ((win ((win (List.replicate 0 (0 : Int)) 0 0) ++ (win z19.1 1 ((List.length z19.1) - 1))) 0 (0 + (List.length (win z19.1 1 ((List.length z19.1) - 1))))) ++ (win (List.set (List.replicate 1 (0 : Int)) 0 z20) 0 1)))))
                          (.sub (i_ClosesUp (win ((win ((win (List.replicate 0 (0 : Int)) 0 0) ++ (win z19.1 1 ((List.length z19.1) - 1))) 0 (0 + (List.length (win z19.1 1 ((List.length z19.1) - 1))))) ++ (win (List.set (List.replicate 1 (0 : Int)) 0 z20) 0 1)) 0 ((0 + (List.length (win z19.1 1 ((List.length z19.1) - 1)))) + (List.length (win (List.set (List.replicate 1 (0 : Int)) 0 z20) 0 1))))) fun z21 =>
                           (.sub (l_dBack z19.1) fun z22 =>
                           (.test (decide ((0 + (List.length z22.2)) ≤ (List.length z22.2)))
                           (.sub (i_ClosesUp (win z22.2 0 (List.length z22.2))) fun z23 =>
                            (.test (! z21.2)
                            (.ret false)
                            (.test (! z21.1)
                             (.ret false)
                             (.test (! z23.2)
                              (.ret false)
                              (.test (! z23.1)
                               (.ret false)
                               (.ret true))))))
                           .fail)))
                          .fail)
                         .fail)
                        .fail)
                       .fail))
                      .fail)
                     .fail)
                    .fail)
                   .fail)
                  .fail)
                 (.ret true)))))
               (.sub (l_FnListsCloseUp_R40 (z12.1, z12.2.1)) fun z24 =>
                (.test z24.2
                (.test true
                 (.test (decide ((1 ≤ (List.length z24.1)) ∧ ((List.length z24.1) ≤ (List.length z24.1))))
                  (.test true
                   (.test (decide ((2 * ((0 + (List.length (win z24.1 1 ((List.length z24.1) - 1)))) * 9)) ≤ 140737488355328))
                    (.test (decide (((0 : Int) ≤ (0 : Int)) ∧ (0 < ((List.length z24.1) : Int))))
                     (.sub (z24.1[0]?) fun z25 =>
                      (.test (decide (1 ≤ (List.length (List.set (List.replicate 1 (0 : Int)) 0 z25))))
                      (.test (decide ((0 + (0 + (List.length (win z24.1 1 ((List.length z24.1) - 1))))) ≤ (List.length ((win (List.replicate 0 (0 : Int)) 0 0) ++ (win z24.1 1 ((List.length z24.1) - 1))))))
                       (.test (decide ((2 * (((0 + (List.length (win z24.1 1 ((List.length z24.1) - 1)))) + (List.length (win (List.set (List.replicate 1 (0 : Int)) 0 z25) 0 1))) * 9)) ≤ 140737488355328))
                        (.test (decide ((0 + ((0 + (List.length (win z24.1 1 ((List.length z24.1) - 1)))) + (List.length (win (List.set (List.replicate 1 (0 : Int)) 0 z25) 0 1)))) ≤ (List.length ((win ((win (List.replicate 0 (0 : Int)) 0 0) ++ (win z24.1 1 ((List.length z24.1) - 1))) 0 (0 + (List.length (win z24.1 1 ((List.length z24.1) - 1))))) ++ (win (List.set (List.replicate 1 (0 : Int)) 0 z25) 0 1)))))
                         (.sub (i_ClosesUp (win ((win ((win (List.replicate 0 (0 : Int)) 0 0) ++ (win z24.1 1 ((List.length z24.1) - 1))) 0 (0 + (List.length (win z24.1 1 ((List.length z24.1) - 1))))) ++ (win (List.set (List.replicate 1 (0 : Int)) 0 z25) 0 1)) 0 ((0 + (List.length (win z24.1 1 ((List.length z24.1) - 1)))) + (List.length (win (List.set (List.replicate 1 (0 : Int)) 0 z25) 0 1))))) fun z26 =>
                          (.sub (l_dBack z24.1) fun z27 =>
                          (.test (decide ((0 + (List.length z27.2)) ≤ (List.length z27.2)))
                          (.sub (i_ClosesUp (win z27.2 0 (List.length z27.2))) fun z28 =>
                           (.test (! z26.2)
                           (.ret false)
                           (.test (! z26.1)
                            (.ret false)
                            (.test (! z28.2)
                             (.ret false)
                             (.test (! z28.1)
                              (.ret false)
                              (.ret true))))))
                          .fail)))
                         .fail)
                        .fail)
                       .fail)
                      .fail))
                     .fail)
                    .fail)
                   .fail)
                  .fail)
                 .fail)
                (.ret true)))))
             (.test z12.2.2.2
              (.sub (l_dSum z12.1) fun z29 =>
               (.test (z29 == (w64 ((w64 (3 * ((List.length z12.1) : Int))) - 6)))
               (.test (! (z12.2.1 == z12.2.2.1))
                (.ret false)
                (.sub (l_FnListsCloseUp_R40 (z12.1, z12.2.1)) fun z30 =>
                 (.test z30.2
                 (.test true
                  (.test (decide ((1 ≤ (List.length z30.1)) ∧ ((List.length z30.1) ≤ (List.length z30.1))))
                   (.test true
                    (.test (decide ((2 * ((0 + (List.length (win z30.1 1 ((List.length z30.1) - 1)))) * 9)) ≤ 140737488355328))
                     (.test (decide (((0 : Int) ≤ (0 : Int)) ∧ (0 < ((List.length z30.1) : Int))))
                      (.sub (z30.1[0]?) fun z31 =>
                       (.test (decide (1 ≤ (List.length (List.set (List.replicate 1 (0 : Int)) 0 z31))))
                       (.test (decide ((0 + (0 + (List.length (win z30.1 1 ((List.length z30.1) - 1))))) ≤ (List.length ((win (List.replicate 0 (0 : Int)) 0 0) ++ (win z30.1 1 ((List.length z30.1) - 1))))))
                        (.test (decide ((2 * (((0 + (List.length (win z30.1 1 ((List.length z30.1) - 1)))) + (List.length (win (List.set (List.replicate 1 (0 : Int)) 0 z31) 0 1))) * 9)) ≤ 140737488355328))
                         (.test (decide ((0 + ((0 + (List.length (win z30.1 1 ((List.length z30.1) - 1)))) + (List.length (win (List.set (List.replicate 1 (0 : Int)) 0 z31) 0 1)))) ≤ (List.length ((win ((win (List.replicate 0 (0 : Int)) 0 0) ++ (win z30.1 1 ((List.length z30.1) - 1))) 0 (0 + (List.length (win z30.1 1 ((List.length z30.1) - 1))))) ++ (win (List.set (List.replicate 1 (0 : Int)) 0 z31) 0 1)))))
                          (.sub (i_ClosesUp (win ((win ((win (List.replicate 0 (0 : Int)) 0 0) ++ (win z30.1 1 ((List.length z30.1) - 1))) 0 (0 + (List.length (win z30.1 1 ((List.length z30.1) - 1))))) ++ (win (List.set (List.replicate 1 (0 : Int)) 0 z31) 0 1)) 0 ((0 + (List.length (win z30.1 1 ((List.length z30.1) - 1)))) + (List.length (win (List.set (List.replicate 1 (0 : Int)) 0 z31) 0 1))))) fun z32 =>
                           (.sub (l_dBack z30.1) fun z33 =>
                           (.test (decide ((0 + (List.length z33.2)) ≤ (List.length z33.2)))
                           (.sub (i_ClosesUp (win z33.2 0 (List.length z33.2))) fun z34 =>
                            (.test (! z32.2)
                            (.ret false)
                            (.test (! z32.1)
                             (.ret false)
                             (.test (! z34.2)
                              (.ret false)
                              (.test (! z34.1)
                               (.ret false)
                               (.ret true))))))
                           .fail)))
                          .fail)
                         .fail)
                        .fail)
                       .fail))
                      .fail)
                     .fail)
                    .fail)
                   .fail)
                  .fail)
                 (.ret true))))
               (.sub (l_FnListsCloseUp_R40 (z12.1, z12.2.1)) fun z35 =>
                (.test z35.2
                (.test true
                 (.test (decide ((1 ≤ (List.length z35.1)) ∧ ((List.length z35.1) ≤ (List.length z35.1))))
                  (.test true
                   (.test (decide ((2 * ((0 + (List.length (win z35.1 1 ((List.length z35.1) - 1)))) * 9)) ≤ 140737488355328))
                    (.test (decide (((0 : Int) ≤ (0 : Int)) ∧ (0 < ((List.length z35.1) : Int))))
                     (.sub (z35.1[0]?) fun z36 =>
                      (.test (decide (1 ≤ (List.length (List.set (List.replicate 1 (0 : Int)) 0 z36))))
                      (.test (decide ((0 + (0 + (List.length (win z35.1 1 ((List.length z35.1) - 1))))) ≤ (List.length ((win (List.replicate 0 (0 : Int)) 0 0) ++ (win z35.1 1 ((List.length z35.1) - 1))))))
                       (.test (decide ((2 * (((0 + (List.length (win z35.1 1 ((List.length z35.1) - 1)))) + (List.length (win (List.set (List.replicate 1 (0 : Int)) 0 z36) 0 1))) * 9)) ≤ 140737488355328))
                        (.test (decide ((0 + ((0 + (List.length (win z35.1 1 ((List.length z35.1) - 1)))) + (List.length (win (List.set (List.replicate 1 (0 : Int)) 0 z36) 0 1)))) ≤ (List.length ((win ((win (List.replicate 0 (0 : Int)) 0 0) ++ (win z35.1 1 ((List.length z35.1) - 1))) 0 (0 + (List.length (win z35.1 1 ((List.length z35.1) - 1))))) ++ (win (List.set (List.replicate 1 (0 : Int)) 0 z36) 0 1)))))
                         (.sub (i_ClosesUp (win ((win ((win (List.replicate 0 (0 : Int)) 0 0) ++ (win z35.1 1 ((List.length z35.1) - 1))) 0 (0 + (List.length (win z35.1 1 ((List.length z35.1) - 1))))) ++ (win (List.set (List.replicate 1 (0 : Int)) 0 z36) 0 1)) 0 ((0 + (List.length (win z35.1 1 ((List.length z35.1) - 1)))) + (List.length (win (List.set (List.replicate 1 (0 : Int)) 0 z36) 0 1))))) fun z37 =>
                          (.sub (l_dBack z35.1) fun z38 =>
                          (.test (decide ((0 + (List.length z38.2)) ≤ (List.length z38.2)))
                          (.sub (i_ClosesUp (win z38.2 0 (List.length z38.2))) fun z39 =>
                           (.test (! z37.2)
                           (.ret false)
                           (.test (! z37.1)
                            (.ret false)
                            (.test (! z39.2)
                             (.ret false)
                             (.test (! z39.1)
                              (.ret false)
                              (.ret true))))))
                          .fail)))
                         .fail)
                        .fail)
                       .fail)
                      .fail))
                     .fail)
                    .fail)
                   .fail)
                  .fail)
                 .fail)
                (.ret true)))))
              (.sub (l_FnListsCloseUp_R40 (z12.1, z12.2.1)) fun z40 =>
               (.test z40.2
               (.test true
                (.test (decide ((1 ≤ (List.length z40.1)) ∧ ((List.length z40.1) ≤ (List.length z40.1))))
                 (.test true
                  (.test (decide ((2 * ((0 + (List.length (win z40.1 1 ((List.length z40.1) - 1)))) * 9)) ≤ 140737488355328))
                   (.test (decide (((0 : Int) ≤ (0 : Int)) ∧ (0 < ((List.length z40.1) : Int))))
                    (.sub (z40.1[0]?) fun z41 =>
                     (.test (decide (1 ≤ (List.length (List.set (List.replicate 1 (0 : Int)) 0 z41))))
                     (.test (decide ((0 + (0 + (List.length (win z40.1 1 ((List.length z40.1) - 1))))) ≤ (List.length ((win (List.replicate 0 (0 : Int)) 0 0) ++ (win z40.1 1 ((List.length z40.1) - 1))))))
                      (.test (decide ((2 * (((0 + (List.length (win z40.1 1 ((List.length z40.1) - 1)))) + (List.length (win (List.set (List.replicate 1 (0 : Int)) 0 z41) 0 1))) * 9)) ≤ 140737488355328))
                       (.test (decide ((0 + ((0 + (List.length (win z40.1 1 ((List.length z40.1) - 1)))) + (List.length (win (List.set (List.replicate 1 (0 : Int)) 0 z41) 0 1)))) ≤ (List.length ((win ((win (List.replicate 0 (0 : Int)) 0 0) ++ (win z40.1 1 ((List.length z40.1) - 1))) 0 (0 + (List.length (win z40.1 1 ((List.length z40.1) - 1))))) ++ (win (List.set (List.replicate 1 (0 : Int)) 0 z41) 0 1)))))
                        (.sub (i_ClosesUp (win ((win ((win (List.replicate 0 (0 : Int)) 0 0) ++ (win z40.1 1 ((List.length z40.1) - 1))) 0 (0 + (List.length (win z40.1 1 ((List.length z40.1) - 1))))) ++ (win (List.set (List.replicate 1 (0 : Int)) 0 z41) 0 1)) 0 ((0 + (List.length (win z40.1 1 ((List.length z40.1) - 1)))) + (List.length (win (List.set (List.replicate 1 (0 : Int)) 0 z41) 0 1))))) fun z42 =>
                         (.sub (l_dBack z40.1) fun z43 =>
                         (.test (decide ((0 + (List.length z43.2)) ≤ (List.length z43.2)))
                         (.sub (i_ClosesUp (win z43.2 0 (List.length z43.2))) fun z44 =>
                          (.test (! z42.2)
                          (.ret false)
                          (.test (! z42.1)
                           (.ret false)
                           (.test (! z44.2)
                            (.ret false)
                            (.test (! z44.1)
                             (.ret false)
                             (.ret true))))))
                         .fail)))
                        .fail)
                       .fail)
                      .fail)
                     .fail))
                    .fail)
                   .fail)
                  .fail)
                 .fail)
                .fail)
               (.ret true)))))))
            (.ret true))))))))))))
       .fail))))
    .fail))
   .fail))))
noncomputable def l_FnListsCloseUp (v : (List (Int) × List (Int))) : Option Bool := (l_FnListsCloseUp_t v).run
noncomputable def l_FnListsCloseUp_E : TEnv := ((((((((((((((E0.add1 n_l_big l_big_sh l_big_fo l_big).add1 n_s_DrawMatrixOfList s_DrawMatrixOfList_sh s_DrawMatrixOfList_fo s_DrawMatrixOfList).add1 n_i_MatrixOfList i_MatrixOfList_sh i_MatrixOfList_fo i_MatrixOfList).add1 n_s_MatrixOfList s_MatrixOfList_sh s_MatrixOfList_fo s_MatrixOfList).add1 n_i_ContinuantOf i_ContinuantOf_sh i_ContinuantOf_fo i_ContinuantOf).add1 n_i_IsMatrix i_IsMatrix_sh i_IsMatrix_fo i_IsMatrix).add1 n_i_PutOne i_PutOne_sh i_PutOne_fo i_PutOne).add1 n_s_DrawClosesUp s_DrawClosesUp_sh s_DrawClosesUp_fo s_DrawClosesUp).add1 n_i_ClosesUp i_ClosesUp_sh i_ClosesUp_fo i_ClosesUp).add1 n_s_ClosesUp s_ClosesUp_sh s_ClosesUp_fo s_ClosesUp).add1 n_i_IsTermList i_IsTermList_sh i_IsTermList_fo i_IsTermList).add1 n_i_IsQuiddity i_IsQuiddity_sh i_IsQuiddity_fo i_IsQuiddity).add1 n_l_dSum l_dSum_sh l_dSum_fo l_dSum).add1 n_l_dBack l_dBack_sh l_dBack_fo l_dBack)
theorem l_FnListsCloseUp_Eok : (l_FnListsCloseUp_E).OK := ((((((((((((((E0ok.add1 l_big_ok).add1 s_DrawMatrixOfList_ok).add1 i_MatrixOfList_ok).add1 s_MatrixOfList_ok).add1 i_ContinuantOf_ok).add1 i_IsMatrix_ok).add1 i_PutOne_ok).add1 s_DrawClosesUp_ok).add1 i_ClosesUp_ok).add1 s_ClosesUp_ok).add1 i_IsTermList_ok).add1 i_IsQuiddity_ok).add1 l_dSum_ok).add1 l_dBack_ok)
noncomputable def l_FnListsCloseUp_told : Nat → Option SealT := fun id => if id = 19 then some (LSh.told l_FnListsCloseUp_L19_sh 0 (l_FnListsCloseUp_L19_step)) else if id = 1000009 then some (LSh.cut l_FnListsCloseUp_C9_sh 0 [(1, none), (5, none), (6, none), (7, none)] (l_FnListsCloseUp_C9)) else if id = 34 then some (LSh.told l_FnListsCloseUp_L34_sh 0 (l_FnListsCloseUp_L34_step)) else if id = 2000040 then some (LSh.cut l_FnListsCloseUp_R40_sh 0 [(23, none), (24, none)] (l_FnListsCloseUp_R40)) else none
theorem l_FnListsCloseUp_L19_ok : ToldOK Try.prog 0 (loopAt (bodyOf fn_l_FnListsCloseUp) [0]) (LSh.told l_FnListsCloseUp_L19_sh 0 (l_FnListsCloseUp_L19_step)) :=
  loop_ok (E := l_FnListsCloseUp_E) (l_FnListsCloseUp_Eok) (told := l_FnListsCloseUp_told) (l := l_FnListsCloseUp_L19_sh) (step := l_FnListsCloseUp_L19_step) (loopsOK_of2 (ls := []) (cs := [cutAt (loopAt (bodyOf fn_l_FnListsCloseUp) [0]) 0, cutAt (loopAt (bodyOf fn_l_FnListsCloseUp) [0]) 1, cutAt (loopAt (bodyOf fn_l_FnListsCloseUp) [0]) 2, cutAt (loopAt (bodyOf fn_l_FnListsCloseUp) [0]) 3, cutAt (loopAt (bodyOf fn_l_FnListsCloseUp) [0]) 4, cutAt (loopAt (bodyOf fn_l_FnListsCloseUp) [0]) 5]) (by kernel_rfl) trivial (by kernel_rfl) ⟨.inl (by kernel_rfl), ⟨.inl (by kernel_rfl), ⟨.inl (by kernel_rfl), ⟨.inl (by kernel_rfl), ⟨.inl (by kernel_rfl), ⟨.inl (by kernel_rfl), trivial⟩⟩⟩⟩⟩⟩) (by kernel_rfl) (fun v => by kernel_rfl)
theorem l_FnListsCloseUp_C9_ok : CutOK Try.prog 0 (cutAt (loopAt (bodyOf fn_l_FnListsCloseUp) []) 10) (LSh.cut l_FnListsCloseUp_C9_sh 0 [(1, none), (5, none), (6, none), (7, none)] (l_FnListsCloseUp_C9)) :=
  cut_ok (E := l_FnListsCloseUp_E) (l_FnListsCloseUp_Eok) (told := l_FnListsCloseUp_told) (l := l_FnListsCloseUp_C9_sh) (head := [(1, none), (5, none), (6, none), (7, none)]) (F := l_FnListsCloseUp_C9_step) (loopsOK_of2 (ls := [loopAt (bodyOf fn_l_FnListsCloseUp) [0]]) (cs := [cutAt (loopAt (bodyOf fn_l_FnListsCloseUp) []) 11, cutAt (loopAt (bodyOf fn_l_FnListsCloseUp) []) 12, cutAt (loopAt (bodyOf fn_l_FnListsCloseUp) []) 13, cutAt (loopAt (bodyOf fn_l_FnListsCloseUp) []) 14, cutAt (loopAt (bodyOf fn_l_FnListsCloseUp) []) 15, cutAt (loopAt (bodyOf fn_l_FnListsCloseUp) []) 16, cutAt (loopAt (bodyOf fn_l_FnListsCloseUp) []) 17, cutAt (loopAt (bodyOf fn_l_FnListsCloseUp) []) 18, cutAt (loopAt (bodyOf fn_l_FnListsCloseUp) []) 19, cutAt (loopAt (bodyOf fn_l_FnListsCloseUp) []) 20, cutAt (loopAt (bodyOf fn_l_FnListsCloseUp) []) 21, cutAt (loopAt (bodyOf fn_l_FnListsCloseUp) []) 22, cutAt (loopAt (bodyOf fn_l_FnListsCloseUp) []) 23]) (by kernel_rfl) ⟨.inr ⟨_, by kernel_rfl, l_FnListsCloseUp_L19_ok⟩, trivial⟩ (by kernel_rfl) ⟨.inl (by kernel_rfl), ⟨.inl (by kernel_rfl), ⟨.inl (by kernel_rfl), ⟨.inl (by kernel_rfl), ⟨.inl (by kernel_rfl), ⟨.inl (by kernel_rfl), ⟨.inl (by kernel_rfl), ⟨.inl (by kernel_rfl), ⟨.inl (by kernel_rfl), ⟨.inl (by kernel_rfl), ⟨.inl (by kernel_rfl), ⟨.inl (by kernel_rfl), ⟨.inl (by kernel_rfl), trivial⟩⟩⟩⟩⟩⟩⟩⟩⟩⟩⟩⟩⟩) (fun v => by kernel_rfl)
theorem l_FnListsCloseUp_L34_ok : ToldOK Try.prog 0 (loopAt (bodyOf fn_l_FnListsCloseUp) [1]) (LSh.told l_FnListsCloseUp_L34_sh 0 (l_FnListsCloseUp_L34_step)) :=
  loop_ok (E := l_FnListsCloseUp_E) (l_FnListsCloseUp_Eok) (told := l_FnListsCloseUp_told) (l := l_FnListsCloseUp_L34_sh) (step := l_FnListsCloseUp_L34_step) (loopsOK_of2 (ls := []) (cs := [cutAt (loopAt (bodyOf fn_l_FnListsCloseUp) [1]) 0, cutAt (loopAt (bodyOf fn_l_FnListsCloseUp) [1]) 1, cutAt (loopAt (bodyOf fn_l_FnListsCloseUp) [1]) 2]) (by kernel_rfl) trivial (by kernel_rfl) ⟨.inl (by kernel_rfl), ⟨.inl (by kernel_rfl), ⟨.inl (by kernel_rfl), trivial⟩⟩⟩) (by kernel_rfl) (fun v => by kernel_rfl)
theorem l_FnListsCloseUp_R40_ok : CutOK Try.prog 0 (cutAt (loopAt (bodyOf fn_l_FnListsCloseUp) []) 38) (LSh.cut l_FnListsCloseUp_R40_sh 0 [(23, none), (24, none)] (l_FnListsCloseUp_R40)) :=
  cut_ok (E := l_FnListsCloseUp_E) (l_FnListsCloseUp_Eok) (told := l_FnListsCloseUp_told) (l := l_FnListsCloseUp_R40_sh) (head := [(23, none), (24, none)]) (F := l_FnListsCloseUp_R40_step) (loopsOK_of2 (ls := []) (cs := []) (by kernel_rfl) trivial (by kernel_rfl) trivial) (fun v => by kernel_rfl)
theorem l_FnListsCloseUp_ok : FOK Try.prog n_l_FnListsCloseUp l_FnListsCloseUp_sh l_FnListsCloseUp_fo l_FnListsCloseUp :=
  fn_ok (E := l_FnListsCloseUp_E) (l_FnListsCloseUp_Eok) (told := l_FnListsCloseUp_told) (fl := []) (c := bodyOf fn_l_FnListsCloseUp) (s := l_FnListsCloseUp_sh) (l := l_FnListsCloseUp_fo) (tree := l_FnListsCloseUp_t) fnat_l_FnListsCloseUp (by kernel_rfl) (by kernel_rfl) (by kernel_rfl) (loopsOK_of2 (ls := [loopAt (bodyOf fn_l_FnListsCloseUp) [0], loopAt (bodyOf fn_l_FnListsCloseUp) [1]]) (cs := [cutAt (loopAt (bodyOf fn_l_FnListsCloseUp) []) 0, cutAt (loopAt (bodyOf fn_l_FnListsCloseUp) []) 1, cutAt (loopAt (bodyOf fn_l_FnListsCloseUp) []) 2, cutAt (loopAt (bodyOf fn_l_FnListsCloseUp) []) 3, cutAt (loopAt (bodyOf fn_l_FnListsCloseUp) []) 4, cutAt (loopAt (bodyOf fn_l_FnListsCloseUp) []) 5, cutAt (loopAt (bodyOf fn_l_FnListsCloseUp) []) 6, cutAt (loopAt (bodyOf fn_l_FnListsCloseUp) []) 7, cutAt (loopAt (bodyOf fn_l_FnListsCloseUp) []) 8, cutAt (loopAt (bodyOf fn_l_FnListsCloseUp) []) 9, cutAt (loopAt (bodyOf fn_l_FnListsCloseUp) []) 10, cutAt (loopAt (bodyOf fn_l_FnListsCloseUp) []) 11, cutAt (loopAt (bodyOf fn_l_FnListsCloseUp) []) 12, cutAt (loopAt (bodyOf fn_l_FnListsCloseUp) []) 13, cutAt (loopAt (bodyOf fn_l_FnListsCloseUp) []) 14, cutAt (loopAt (bodyOf fn_l_FnListsCloseUp) []) 15, cutAt (loopAt (bodyOf fn_l_FnListsCloseUp) []) 16, cutAt (loopAt (bodyOf fn_l_FnListsCloseUp) []) 17, cutAt (loopAt (bodyOf fn_l_FnListsCloseUp) []) 18, cutAt (loopAt (bodyOf fn_l_FnListsCloseUp) []) 19, cutAt (loopAt (bodyOf fn_l_FnListsCloseUp) []) 20, cutAt (loopAt (bodyOf fn_l_FnListsCloseUp) []) 21, cutAt (loopAt (bodyOf fn_l_FnListsCloseUp) []) 22, cutAt (loopAt (bodyOf fn_l_FnListsCloseUp) []) 23, cutAt (loopAt (bodyOf fn_l_FnListsCloseUp) []) 24, cutAt (loopAt (bodyOf fn_l_FnListsCloseUp) []) 25, cutAt (loopAt (bodyOf fn_l_FnListsCloseUp) []) 26, cutAt (loopAt (bodyOf fn_l_FnListsCloseUp) []) 27, cutAt (loopAt (bodyOf fn_l_FnListsCloseUp) []) 28, cutAt (loopAt (bodyOf fn_l_FnListsCloseUp) []) 29, cutAt (loopAt (bodyOf fn_l_FnListsCloseUp) []) 30, cutAt (loopAt (bodyOf fn_l_FnListsCloseUp) []) 31, cutAt (loopAt (bodyOf fn_l_FnListsCloseUp) []) 32, cutAt (loopAt (bodyOf fn_l_FnListsCloseUp) []) 33, cutAt (loopAt (bodyOf fn_l_FnListsCloseUp) []) 34, cutAt (loopAt (bodyOf fn_l_FnListsCloseUp) []) 35, cutAt (loopAt (bodyOf fn_l_FnListsCloseUp) []) 36, cutAt (loopAt (bodyOf fn_l_FnListsCloseUp) []) 37, cutAt (loopAt (bodyOf fn_l_FnListsCloseUp) []) 38, cutAt (loopAt (bodyOf fn_l_FnListsCloseUp) []) 39, cutAt (loopAt (bodyOf fn_l_FnListsCloseUp) []) 40, cutAt (loopAt (bodyOf fn_l_FnListsCloseUp) []) 41, cutAt (loopAt (bodyOf fn_l_FnListsCloseUp) []) 42, cutAt (loopAt (bodyOf fn_l_FnListsCloseUp) []) 43, cutAt (loopAt (bodyOf fn_l_FnListsCloseUp) []) 44]) (by kernel_rfl) ⟨.inr ⟨_, by kernel_rfl, l_FnListsCloseUp_L19_ok⟩, ⟨.inr ⟨_, by kernel_rfl, l_FnListsCloseUp_L34_ok⟩, trivial⟩⟩ (by kernel_rfl) ⟨.inl (by kernel_rfl), ⟨.inl (by kernel_rfl), ⟨.inl (by kernel_rfl), ⟨.inl (by kernel_rfl), ⟨.inl (by kernel_rfl), ⟨.inl (by kernel_rfl), ⟨.inl (by kernel_rfl), ⟨.inl (by kernel_rfl), ⟨.inl (by kernel_rfl), ⟨.inl (by kernel_rfl), ⟨.inr ⟨_, by kernel_rfl, l_FnListsCloseUp_C9_ok⟩, ⟨.inl (by kernel_rfl), ⟨.inl (by kernel_rfl), ⟨.inl (by kernel_rfl), ⟨.inl (by kernel_rfl), ⟨.inl (by kernel_rfl), ⟨.inl (by kernel_rfl), ⟨.inl (by kernel_rfl), ⟨.inl (by kernel_rfl), ⟨.inl (by kernel_rfl), ⟨.inl (by kernel_rfl), ⟨.inl (by kernel_rfl), ⟨.inl (by kernel_rfl), ⟨.inl (by kernel_rfl), ⟨.inl (by kernel_rfl), ⟨.inl (by kernel_rfl), ⟨.inl (by kernel_rfl), ⟨.inl (by kernel_rfl), ⟨.inl (by kernel_rfl), ⟨.inl (by kernel_rfl), ⟨.inl (by kernel_rfl), ⟨.inl (by kernel_rfl), ⟨.inl (by kernel_rfl), ⟨.inl (by kernel_rfl), ⟨.inl (by kernel_rfl), ⟨.inl (by kernel_rfl), ⟨.inl (by kernel_rfl), ⟨.inl (by kernel_rfl), ⟨.inr ⟨_, by kernel_rfl, l_FnListsCloseUp_R40_ok⟩, ⟨.inl (by kernel_rfl), ⟨.inl (by kernel_rfl), ⟨.inl (by kernel_rfl), ⟨.inl (by kernel_rfl), ⟨.inl (by kernel_rfl), ⟨.inl (by kernel_rfl), trivial⟩⟩⟩⟩⟩⟩⟩⟩⟩⟩⟩⟩⟩⟩⟩⟩⟩⟩⟩⟩⟩⟩⟩⟩⟩⟩⟩⟩⟩⟩⟩⟩⟩⟩⟩⟩⟩⟩⟩⟩⟩⟩⟩⟩⟩) (fun v => by kernel_rfl)

theorem l_FnListsCloseUp_L34_eq (s : List Int) (closes quid : Bool) (hl : s.length ≤ 50) : ∀ (m i : Nat) (p : Bool), i + m = s.length →
    l_FnListsCloseUp_L34 (s, (closes, (quid, (p, (s, ((s.length : Int), (i : Int))))))) = some (s, (closes, (quid, p && (s.drop i).all fun x => decide (x ≥ 1)))) := by
  intro m
  induction m with
  | zero =>
    intro i p hi
    have hi : i = s.length := by omega
    subst hi
    simp only [l_FnListsCloseUp_L34]
    refine loopO_done ?_
    rw [l_FnListsCloseUp_L34_step, T.run_test, if_neg (by simp), T.run_ret]
    simp
  | succ m ih =>
    intro i p hi
    have hlt : i < s.length := by omega
    have w1 : w64 ((i : Int) + 1) = ((i + 1 : Nat) : Int) := by rw [w64_id (by omega) (by omega)]; omega
    have hg : s[i]? = some s[i] := List.getElem?_eq_getElem _
    have := ih (i + 1) (p && decide (s[i] ≥ 1)) (by omega)
    simp only [l_FnListsCloseUp_L34] at this ⊢
    rw [loopO_next (v' := (s, (closes, (quid, (p && decide (s[i] ≥ 1), (s, ((s.length : Int), ((i + 1 : Nat) : Int))))))))]
    · rw [this, List.drop_eq_getElem_cons hlt, List.all_cons, Bool.and_assoc]
    · rw [l_FnListsCloseUp_L34_step, T.run_test, if_pos (decide_eq_true (by omega)), T.run_test, if_pos (decide_eq_true (by omega)), T.run_sub, Int.toNat_natCast, hg, Option.bind_some, T.run_test, w1]
      cases p with
      | false => rfl
      | true => rfl
theorem l_FnListsCloseUp_R40_eq (s : List Int) (closes : Bool) : l_FnListsCloseUp_R40 (s, closes) = some (s, closes && decide ((s.length : Int) > 0)) := by
  rw [l_FnListsCloseUp_R40, l_FnListsCloseUp_R40_step, T.run_test]
  cases closes <;> rfl
theorem l_FnListsCloseUp_L19_eq (more list : List Int) (hl : list.length ≤ 10) (hg : good4 (mOf list) = true) : ∀ (m i : Nat), i + m = list.length + 1 → 1 ≤ i →
    l_FnListsCloseUp_L19 ((more, ((), ((), (i : Int)))), (list, mOf list)) = some (.inr more) := by
  intro m
  obtain ⟨⟨ma, mb, mc, md⟩, hm⟩ : ∃ q, q = mOf list := ⟨_, rfl⟩
  rw [← hm]
  induction m with
  | zero =>
    intro i hi h1
    simp only [l_FnListsCloseUp_L19]
    refine loopO_done ?_
    rw [l_FnListsCloseUp_L19_step, T.run_test, if_neg (by rw [decide_eq_true_eq]; omega), T.run_ret]
  | succ m ih =>
    intro i hi h1
    have := ih (i + 1) (by omega) (by omega)
    simp only [l_FnListsCloseUp_L19] at this ⊢
    by_cases c : i < list.length
    · have w1 : w64 ((i : Int) + 1) = ((i + 1 : Nat) : Int) := by rw [w64_id (by omega) (by omega)]; omega
      obtain ⟨r, hr, i1, _⟩ := put_both list (i : Int) (by omega)
      have hM := i_MatrixOfList_eq r.2 (by omega)
      rw [loopO_next, this]
      rw [l_FnListsCloseUp_L19_step, T.run_test, if_pos (decide_eq_true (by omega)), T.run_test, if_pos (by simp), T.run_sub, win_all, i1, Option.bind_some, T.run_test, if_pos (by simp), T.run_sub, win_all, hM, Option.bind_some, T.run_test]
      cases hr1 : r.1 with
      | false => rw [if_neg (by simp), T.run_test, if_pos (by simp), T.run_ret, w1]
      | true =>
        obtain ⟨L, x, y, R, rfl, _, ht, ht2, hp⟩ := PutOne_val list (i : Int) (by omega) r i1 hr1
        have e : mOf r.2 = (ma, mb, mc, md) := by
          rw [hm, ← MM_mOf, ← MM_mOf, hp, MM_append, MM_append, MM_take]
          simp
        rw [ht2, e, hm, hg]
        rw [if_pos rfl, T.run_test, if_neg (by simp), T.run_test, if_neg (by rw [← hm]; simp), T.run_test, if_pos (by simp), T.run_ret, w1]
    · refine loopO_done ?_
      rw [l_FnListsCloseUp_L19_step, T.run_test, if_neg (by rw [decide_eq_true_eq]; omega), T.run_ret]

theorem l_FnListsCloseUp_C9_eq (more list : List Int) (hl : list.length ≤ 50) (ok : Bool) (h : ok = true → isTerms list = true ∧ good4 (mOf list) = true) (m : M4) (hm : ok = true → m = mOf list) :
    l_FnListsCloseUp_C9 ((more, ((), ((), ok))), (list, m)) = some (.inr more) := by
  obtain ⟨ma, mb, mc, md⟩ := m
  rw [l_FnListsCloseUp_C9, l_FnListsCloseUp_C9_step, T.run_test]
  cases ok with
  | false => rfl
  | true =>
    obtain ⟨ht, hg⟩ := h rfl
    have hm := hm rfl
    obtain ⟨h10, h30⟩ := isTerms_iff.1 ht
    have hc := ContinuantOf_val list (by omega)
    rw [ht, if_pos rfl] at hc
    have hl19 := l_FnListsCloseUp_L19_eq more list h10 hg list.length 1 (by omega) (Nat.le_refl _)
    rw [Int.natCast_one, ← hm] at hl19
    rw [← hm] at hg
    have hi := i_IsMatrix_eq (ma, mb, mc, md)
    rw [hg] at hi
    have hma : ma = kr (-1) list := by
      cases list with
      | nil => rw [mOf, one4] at hm; simp only [Prod.mk.injEq] at hm; rw [hm.1]; rfl
      | cons a t => rw [mOf] at hm; simp only [Prod.mk.injEq] at hm; rw [hm.1, cont_kr]
    rw [if_pos rfl, T.run_test, if_pos (by simp), T.run_sub, win_all, hc, Option.bind_some, T.run_test, if_neg (by simp), T.run_test, if_neg (by rw [hma]; simp), T.run_sub, hi, Option.bind_some, T.run_test, if_neg (by simp), T.run_test]
    by_cases c : (list.length : Int) > 1
    · have w1 : w64 ((list.length : Int) - 1) = ((list.length - 1 : Nat) : Int) := by rw [w64_id (by omega) (by omega)]; omega
      obtain ⟨a, w, b, e⟩ : ∃ a w b, list = a :: (w ++ [b]) := by
        cases list with
        | nil => simp at c
        | cons a t =>
          rcases List.eq_nil_or_concat t with rfl | ⟨w, b, rfl⟩
          · simp at c
          · exact ⟨a, w, b, by rw [List.concat_eq_append]⟩
      have hlen : list.length = w.length + 2 := by rw [e]; simp
      have e1 : win list 0 (list.length - 1 - 0) = a :: w := by
        rw [win_take, hlen, e, show w.length + 2 - 1 - 0 = w.length + 1 from by omega, List.take_succ_cons, List.take_left']
        rfl
      have e2 : win list 1 (list.length - 1) = w ++ [b] := by
        unfold win
        rw [hlen, e, List.drop_succ_cons, List.drop_zero, List.take_of_length_le]
        simp
      have e3 : win list 1 (list.length - 1 - 1) = w := by
        unfold win
        rw [hlen, e, List.drop_succ_cons, List.drop_zero, show w.length + 2 - 1 - 1 = w.length from by omega, List.take_left']
        rfl
      have sub : ∀ q : List Int, q.length ≤ 10 → (∀ x ∈ q, x ∈ list) → i_ContinuantOf q = some (kr (-1) q, true) := fun q hq hx => by
        have := ContinuantOf_val q (by omega)
        rwa [isTerms_iff.2 ⟨hq, fun x h => h30 x (hx x h)⟩, if_pos rfl] at this
      have q1 := sub (a :: w) (by rw [List.length_cons]; omega) (by rw [e]; intro x hx; simp only [List.mem_cons, List.mem_append, List.not_mem_nil, or_false] at hx ⊢; grind)
      have q2 := sub (w ++ [b]) (by simp; omega) (by rw [e]; intro x hx; simp only [List.mem_cons, List.mem_append, List.not_mem_nil, or_false] at hx ⊢; grind)
      have q3 := sub w (by omega) (by rw [e]; intro x hx; simp only [List.mem_cons, List.mem_append, List.not_mem_nil, or_false] at hx ⊢; grind)
      rw [e, mOf] at hm
      rw [good4_iff] at hg
      simp only [Prod.mk.injEq] at hm
      obtain ⟨_, hm2, hm3, hm4⟩ := hm
      rw [← List.cons_append, cont2_snoc, cf] at hm2
      rw [cont2_snoc, cf] at hm4
      change mb = -cont (-1) (a :: w) at hm2
      change md = -cont (-1) w at hm4
      rw [cont_kr] at hm2 hm3 hm4
      have w2 : w64 (0 - kr (-1) (a :: w)) = mb := by rw [w64_id (by omega) (by omega)]; omega
      have w3 : w64 (0 - kr (-1) w) = md := by rw [w64_id (by omega) (by omega)]; omega
      rw [if_pos (decide_eq_true c), w1, T.run_test, if_pos (decide_eq_true (by omega)), Int.toNat_natCast, T.run_test, if_pos (decide_eq_true (by omega)), T.run_test, if_pos (decide_eq_true (by omega)), T.run_sub, e1, q1, Option.bind_some, T.run_test, if_pos rfl, T.run_test, if_pos (decide_eq_true (by omega)), T.run_test, if_pos (decide_eq_true (by omega)), T.run_sub, e2, q2, Option.bind_some, T.run_test, if_pos rfl,
        T.run_test, if_pos (decide_eq_true (by omega)), T.run_test, if_pos (decide_eq_true (by omega)), T.run_test, if_pos (decide_eq_true (by omega)), T.run_sub, e3, q3, Option.bind_some]
      rw [T.run_test, if_neg (by simp), T.run_test, if_neg (by simp), T.run_test, if_neg (by simp), T.run_test, if_neg (by rw [w2]; simp), T.run_test, if_neg (by rw [hm3]; simp), T.run_test, if_neg (by rw [w3]; simp), T.run_test, if_pos (by simp), T.run_sub, hl19, Option.bind_some]
      rfl
    · rw [if_neg (by rw [decide_eq_true_eq]; exact c), T.run_ret]

/-- The last part of the law. -/
noncomputable def l_FnListsCloseUp_tl (s : List Int) (c : Bool) : T Bool :=
  (.sub (l_FnListsCloseUp_R40 (s, c)) fun z24 =>
                (.test z24.2
                (.test true
                 (.test (decide ((1 ≤ (List.length z24.1)) ∧ ((List.length z24.1) ≤ (List.length z24.1))))
                  (.test true
                   (.test (decide ((2 * ((0 + (List.length (win z24.1 1 ((List.length z24.1) - 1)))) * 9)) ≤ 140737488355328))
                    (.test (decide (((0 : Int) ≤ (0 : Int)) ∧ (0 < ((List.length z24.1) : Int))))
                     (.sub (z24.1[0]?) fun z25 =>
                      (.test (decide (1 ≤ (List.length (List.set (List.replicate 1 (0 : Int)) 0 z25))))
                      (.test (decide ((0 + (0 + (List.length (win z24.1 1 ((List.length z24.1) - 1))))) ≤ (List.length ((win (List.replicate 0 (0 : Int)) 0 0) ++ (win z24.1 1 ((List.length z24.1) - 1))))))
                       (.test (decide ((2 * (((0 + (List.length (win z24.1 1 ((List.length z24.1) - 1)))) + (List.length (win (List.set (List.replicate 1 (0 : Int)) 0 z25) 0 1))) * 9)) ≤ 140737488355328))
                        (.test (decide ((0 + ((0 + (List.length (win z24.1 1 ((List.length z24.1) - 1)))) + (List.length (win (List.set (List.replicate 1 (0 : Int)) 0 z25) 0 1)))) ≤ (List.length ((win ((win (List.replicate 0 (0 : Int)) 0 0) ++ (win z24.1 1 ((List.length z24.1) - 1))) 0 (0 + (List.length (win z24.1 1 ((List.length z24.1) - 1))))) ++ (win (List.set (List.replicate 1 (0 : Int)) 0 z25) 0 1)))))
                         (.sub (i_ClosesUp (win ((win ((win (List.replicate 0 (0 : Int)) 0 0) ++ (win z24.1 1 ((List.length z24.1) - 1))) 0 (0 + (List.length (win z24.1 1 ((List.length z24.1) - 1))))) ++ (win (List.set (List.replicate 1 (0 : Int)) 0 z25) 0 1)) 0 ((0 + (List.length (win z24.1 1 ((List.length z24.1) - 1)))) + (List.length (win (List.set (List.replicate 1 (0 : Int)) 0 z25) 0 1))))) fun z26 =>
                          (.sub (l_dBack z24.1) fun z27 =>
                          (.test (decide ((0 + (List.length z27.2)) ≤ (List.length z27.2)))
                          (.sub (i_ClosesUp (win z27.2 0 (List.length z27.2))) fun z28 =>
                           (.test (! z26.2)
                           (.ret false)
                           (.test (! z26.1)
                            (.ret false)
                            (.test (! z28.2)
                             (.ret false)
                             (.test (! z28.1)
                              (.ret false)
                              (.ret true))))))
                          .fail)))
                         .fail)
                        .fail)
                       .fail)
                      .fail))
                     .fail)
                    .fail)
                   .fail)
                  .fail)
                 .fail)
                (.ret true)))
theorem l_FnListsCloseUp_turned (a : Int) (t : List Int) (hl : (a :: t).length ≤ 10) : (win ((win ((win (List.replicate 0 (0 : Int)) 0 0) ++ (win (a :: t) 1 ((List.length (a :: t)) - 1))) 0 (0 + (List.length (win (a :: t) 1 ((List.length (a :: t)) - 1))))) ++ (win (List.set (List.replicate 1 (0 : Int)) 0 a) 0 1)) 0 ((0 + (List.length (win (a :: t) 1 ((List.length (a :: t)) - 1)))) + (List.length (win (List.set (List.replicate 1 (0 : Int)) 0 a) 0 1)))) = t ++ [a] := by
  have e1 : win (a :: t) 1 ((a :: t).length - 1) = t := by unfold win; simp
  have e0 : win (List.replicate 0 (0 : Int)) 0 0 = [] := rfl
  rw [e1, e0, win_one, List.nil_append, Nat.zero_add, win_all]
  have := win_all (t ++ [a])
  rwa [List.length_append] at this
theorem l_FnListsCloseUp_tl_eq (s : List Int) (c : Bool) (ht : isTerms s = true) (hc : c = true → clo (-1) s) : (l_FnListsCloseUp_tl s c).run = some true := by
  obtain ⟨h10, h30⟩ := isTerms_iff.1 ht
  rw [l_FnListsCloseUp_tl, T.run_sub, l_FnListsCloseUp_R40_eq, Option.bind_some, T.run_test]
  cases c with
  | false => rfl
  | true =>
    have hc := hc rfl
    cases s with
    | nil => rfl
    | cons a t =>
      have e1 : win (a :: t) 1 ((a :: t).length - 1) = t := by unfold win; simp
      have hlen : (a :: t).length = t.length + 1 := rfl
      have t1 : isTerms (t ++ [a]) = true := isTerms_iff.2 ⟨by simp; omega, fun x hx => h30 x (by simp only [List.mem_append, List.mem_cons, List.not_mem_nil, or_false] at hx ⊢; grind)⟩
      have t2 : isTerms (a :: t).reverse = true := isTerms_iff.2 ⟨by rw [List.length_reverse]; exact h10, fun x hx => h30 x (List.mem_reverse.1 hx)⟩
      have m1 : mOf (t ++ [a]) = (-1, 0, 0, -1) := by rw [← MM_mOf]; exact clo_rot1.1 hc
      have m2 : mOf (a :: t).reverse = (-1, 0, 0, -1) := by rw [← MM_mOf]; exact clo_rev hc
      have i1 := i_ClosesUp_eq (t ++ [a]) (by simp; omega)
      have i2 := i_ClosesUp_eq (a :: t).reverse (by rw [List.length_reverse]; omega)
      rw [t1, m1] at i1
      rw [t2, m2] at i2
      have hd := l_dBack_eq (a :: t) h10
      rw [if_pos (by simp), T.run_test, if_pos rfl, T.run_test, if_pos (decide_eq_true (by dsimp only; omega)), T.run_test, if_pos rfl, T.run_test, if_pos (by rw [decide_eq_true_eq]; dsimp only; rw [e1]; omega), T.run_test, if_pos (decide_eq_true (by dsimp only; omega)), T.run_sub, List.getElem?_cons_zero, Option.bind_some, T.run_test, if_pos (by simp), T.run_test, if_pos (by rw [decide_eq_true_eq]; dsimp only; rw [e1]; simp [win]),
        T.run_test, if_pos (by rw [decide_eq_true_eq]; dsimp only; rw [e1, win_one, List.length_singleton]; omega), T.run_test, if_pos (by rw [decide_eq_true_eq]; dsimp only; rw [e1, win_one]; simp [win]), T.run_sub, l_FnListsCloseUp_turned a t h10, i1, Option.bind_some, T.run_sub, hd, Option.bind_some, T.run_test, if_pos (by simp), T.run_sub, win_all, i2, Option.bind_some]
      rfl
theorem l_FnListsCloseUp_true (v : List Int × List Int) (hs : smallL ASh.small [.one (.sl (.int .u8) false true), .one (.sl (.int .u8) false true)] v) : l_FnListsCloseUp v = some true := by
  obtain ⟨code, more⟩ := v
  have hb : ∀ l : List Int, (∀ x ∈ l, wfE (.int .u8) x) → bytesOK l := fun l h x hx => by
    have := h x hx
    simp [wfE, Lit.wf, IntKind.min, IntKind.max, IntKind.signed, IntKind.bits] at this
    omega
  have b1 : bytesOK code := hb code hs.1.2
  have b2 : bytesOK more := hb more hs.2.2
  obtain ⟨b, hbig⟩ : ∃ b, l_big (code, more) = some b := by
    rw [l_big, l_big_t, T.run_test]
    split
    · exact ⟨_, rfl⟩
    · exact ⟨_, rfl⟩
  obtain ⟨l1, e1, hl1⟩ := DrawMatrixOfList_ok b1
  have i1 := i_MatrixOfList_eq l1 (by omega)
  have s1 := s_MatrixOfList_eq l1 (by omega)
  obtain ⟨⟨⟨q1, q2, q3, q4⟩, ok⟩, hq⟩ : ∃ q, q = (if isTerms l1 && good4 (mOf l1) then (mOf l1, true) else (((0 : Int), (0 : Int), (0 : Int), (0 : Int)), false)) := ⟨_, rfl⟩
  have h9 : ok = true → (isTerms l1 = true ∧ good4 (mOf l1) = true) ∧ (q1, q2, q3, q4) = mOf l1 := fun h => by
    cases hp : (isTerms l1 && good4 (mOf l1)) with
    | false => rw [hp] at hq; simp only [Bool.false_eq_true, if_false, Prod.mk.injEq] at hq; rw [hq.2] at h; cases h
    | true =>
      rw [hp, if_pos rfl] at hq
      simp only [Prod.mk.injEq] at hq
      exact ⟨by simpa using hp, hq.1⟩
  have c9 := l_FnListsCloseUp_C9_eq more l1 hl1 ok (fun h => (h9 h).1) (q1, q2, q3, q4) fun h => (h9 h).2
  rw [← hq] at i1 s1
  obtain ⟨l2, e2, hl2⟩ := DrawClosesUp_ok b2
  have i2 := i_ClosesUp_eq l2 (by omega)
  have s2 := s_ClosesUp_eq l2 (by omega)
  have i3 := i_IsTermList_eq l2 (by omega)
  have i4 := i_IsQuiddity_eq l2 (by omega)
  rw [l_FnListsCloseUp, l_FnListsCloseUp_t, T.run_sub, hbig, Option.bind_some, T.run_test]
  cases b with
  | true => rfl
  | false =>
    rw [if_neg (by simp), T.run_sub, e1, Option.bind_some, T.run_test, if_pos (by simp), T.run_sub, win_all, i1, Option.bind_some, T.run_test, if_pos (by simp), T.run_sub, s1, Option.bind_some, T.run_test, if_neg (by simp), T.run_test, if_neg (by simp), T.run_test, if_pos (by simp), T.run_sub, c9, Option.bind_some, T.run_test, if_neg (by simp), T.run_sub, Sum.getRight?_inr, Option.bind_some,
      T.run_sub, e2, Option.bind_some, T.run_sub, i2, Option.bind_some, T.run_sub, s2, Option.bind_some, T.run_test, if_neg (by simp), T.run_test, if_neg (by simp), T.run_sub, i3, Option.bind_some, T.run_test, if_neg (by simp), T.run_test]
    cases ht : isTerms l2 with
    | false => rfl
    | true =>
      obtain ⟨h10, h30⟩ := isTerms_iff.1 ht
      have hsum := l_dSum_eq l2 ht
      have w1 : w64 (w64 (3 * (l2.length : Int)) - 6) = 3 * (l2.length : Int) - 6 := by rw [w64_id (z := 3 * (l2.length : Int)) (by omega) (by omega), w64_id (by omega) (by omega)]
      obtain ⟨cl, hcl⟩ : ∃ cl, cl = decide (mOf l2 = (-1, 0, 0, -1)) := ⟨_, rfl⟩
      obtain ⟨qd, hqd⟩ : ∃ qd, qd = (trOf l2).isSome := ⟨_, rfl⟩
      obtain ⟨ps, hps⟩ : ∃ ps, ps = (decide ((l2.length : Int) ≥ 3) && (l2.drop 0).all fun x => decide (x ≥ 1)) := ⟨_, rfl⟩
      have h34 := l_FnListsCloseUp_L34_eq l2 cl qd hl2 l2.length 0 (decide ((l2.length : Int) ≥ 3)) (by omega)
      rw [← hps, Int.natCast_zero] at h34
      have cc : cl = true ↔ clo (-1) l2 := by rw [hcl, decide_eq_true_eq]; unfold clo; rw [MM_mOf]
      have tl := l_FnListsCloseUp_tl_eq l2 cl ht cc.1
      have k1 : qd = true → cl = true := fun h => cc.2 (quid_clo (by rw [← hqd]; exact h))
      have k2 : ps = true → l2.sum = 3 * (l2.length : Int) - 6 → cl = true → qd = true := fun h1 h2 h3 => by
        rw [hps] at h1
        simp only [List.drop_zero, Bool.and_eq_true, decide_eq_true_eq, List.all_eq_true] at h1
        rw [hqd]
        exact clo_quid ⟨by omega, by omega⟩ (fun z hz => ⟨h1.2 z hz, by have := h30 z hz; omega⟩) h2 (cc.1 h3)
      rw [← hqd] at i4
      rw [← hcl, Bool.true_and]
      rw [if_pos rfl, T.run_sub, i4, Option.bind_some, T.run_sub, h34, Option.bind_some, T.run_test]
      cases qd with
      | true =>
        have hc1 := k1 rfl
        subst hc1
        rw [if_pos rfl, T.run_test, if_neg (by simp), T.run_test]
        cases ps with
        | true =>
          rw [if_pos rfl, T.run_sub, hsum, Option.bind_some, T.run_test]
          split
          · rw [T.run_test, if_neg (by simp)]; exact tl
          · exact tl
        | false => exact tl
      | false =>
        rw [if_neg (by simp), T.run_test]
        cases ps with
        | true =>
          rw [if_pos rfl, T.run_sub, hsum, Option.bind_some, T.run_test, w1]
          split
          · rename_i hh
            have := k2 rfl (by simpa using hh)
            rw [T.run_test, if_neg (by cases cl; · simp
                                       · exact absurd (this rfl) (by simp))]
            exact tl
          · exact tl
        | false => exact tl


end Go.Proofs.W
