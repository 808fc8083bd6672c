/- Functions of the program, walked, and what they compute. -/
import Derived.Test.YtigenooglogcfaaGreatSdWk2
set_option linter.unusedVariables false
set_option linter.unusedSimpArgs false
set_option maxRecDepth 100000
set_option maxHeartbeats 4000000
namespace Go.Proofs.W
open Go Go.Gm Go.Proofs
open Go.RowKit Go.Shelf
def s_poOf_sh : FSh := ⟨[(.one (.sl (.int .i64) false false))], []⟩

def s_poOf_L5_sh : LSh := ⟨(fun ex => match ex with | .norm => [(4, none), (5, none), (26, none), (27, none)] | .exit i => if i = 0 then [(4, none), (5, none)] else [] | .ret => [(2, none), (3, none)]), [(4, (.one (.rw 0 0))), (5, (.one (.rw 1 0))), (26, (.one (.si .i64))), (27, (.one (.si .i64)))], [(.row 0 (.int .i64)), (.row 0 (.int .i64))], [⟨(.exit 0), [(4, (.one (.rw 0 0))), (5, (.one (.rw 1 0)))], [(.row 0 (.int .i64)), (.row 0 (.int .i64))]⟩], [], []⟩
noncomputable def s_poOf_L5_step : ((Unit × Unit × Int × Int) × (List (Int) × List (Int))) → T (((Unit × Unit × Int × Int) × (List (Int) × List (Int))) ⊕ ((Unit × Unit) × (List (Int) × List (Int)))) := fun (((), (), t26, t27), (left, corners)) =>
  (.test (decide (t27 < t26))
  (.test (decide (1 ≤ (List.length (List.set (List.replicate 1 (0 : Int)) 0 t27))))
   (.test (decide ((0 + (List.length corners)) ≤ (List.length corners)))
    (.test (decide ((2 * (((List.length corners) + (List.length (win (List.set (List.replicate 1 (0 : Int)) 0 t27) 0 1))) * 9)) ≤ 140737488355328))
     (.test (decide ((0 = 0) ∧ ((List.length left) = (List.length left))))
      (.test (decide ((0 = 0) ∧ (((List.length corners) + (List.length (win (List.set (List.replicate 1 (0 : Int)) 0 t27) 0 1))) = (List.length ((win corners 0 (List.length corners)) ++ (win (List.set (List.replicate 1 (0 : Int)) 0 t27) 0 1))))))
       (.ret (Sum.inl (((), ((), (t26, (w64 (t27 + 1))))), (left, ((win corners 0 (List.length corners)) ++ (win (List.set (List.replicate 1 (0 : Int)) 0 t27) 0 1))))))
       .fail)
      .fail)
     .fail)
    .fail)
   .fail)
  (.test (decide ((0 = 0) ∧ ((List.length left) = (List.length left))))
   (.test (decide ((0 = 0) ∧ ((List.length corners) = (List.length corners))))
    (.ret (Sum.inr (((), ()), (left, corners))))
    .fail)
   .fail))
noncomputable def s_poOf_L5 (v : ((Unit × Unit × Int × Int) × (List (Int) × List (Int)))) : Option ((Unit × Unit) × (List (Int) × List (Int))) := loopO (fun v => (s_poOf_L5_step v).run) v

def s_poOf_L13_sh : LSh := ⟨(fun ex => match ex with | .norm => [(4, none), (5, none), (7, none), (8, none), (38, none), (39, none), (40, none)] | .exit i => if i = 4 then [(4, none), (5, none), (7, none), (8, none)] else if i = 3 then [(4, none), (5, none), (7, none)] else if i = 2 then [(4, none), (7, none)] else [] | .ret => [(2, none), (3, none)]), [(4, (.one (.rw 0 0))), (5, (.one (.rw 1 0))), (7, (.one (.rw 2 0))), (8, (.one (.si .i64))), (38, (.one (.rw 0 0))), (39, (.one (.si .i64))), (40, (.one (.si .i64)))], [(.row 0 (.int .i64)), (.row 0 (.int .i64)), (.row 0 (.pair (.int .i64) (.int .i64)))], [⟨(.exit 4), [(4, (.one (.rw 0 0))), (5, (.one (.rw 1 0))), (7, (.one (.rw 2 0))), (8, (.one (.si .i64)))], [(.row 0 (.int .i64)), (.row 0 (.int .i64)), (.row 0 (.pair (.int .i64) (.int .i64)))]⟩], [], []⟩
noncomputable def s_poOf_L13_step : ((Unit × Unit × Unit × Int × Unit × Int × Int) × (List (Int) × List (Int) × List ((Int × Int)))) → T (((Unit × Unit × Unit × Int × Unit × Int × Int) × (List (Int) × List (Int) × List ((Int × Int)))) ⊕ ((Unit × Unit × Unit × Int) × (List (Int) × List (Int) × List ((Int × Int))))) := fun (((), (), (), at', (), t39, t40), (left, corners, out)) =>
  (.test (decide (t40 < t39))
  (.test (decide ((0 ≤ t40) ∧ (t40 < ((List.length left) : Int))))
   (.sub (left[(0 + (Int.toNat t40))]?) fun z0 =>
    (.test (z0 == 1)
    (.test (decide (at' < 0))
     (.test (decide ((0 = 0) ∧ ((List.length left) = (List.length left))))
      (.test (decide ((0 = 0) ∧ ((List.length corners) = (List.length corners))))
       (.test (decide ((0 = 0) ∧ ((List.length out) = (List.length out))))
        (.test (decide ((0 = 0) ∧ ((List.length left) = (List.length left))))
         (.ret (Sum.inl (((), ((), ((), (t40, ((), (t39, (w64 (t40 + 1)))))))), (left, (corners, out)))))
         .fail)
        .fail)
       .fail)
      .fail)
     (.test (decide ((0 = 0) ∧ ((List.length left) = (List.length left))))
      (.test (decide ((0 = 0) ∧ ((List.length corners) = (List.length corners))))
       (.test (decide ((0 = 0) ∧ ((List.length out) = (List.length out))))
        (.test (decide ((0 = 0) ∧ ((List.length left) = (List.length left))))
         (.ret (Sum.inl (((), ((), ((), (at', ((), (t39, (w64 (t40 + 1)))))))), (left, (corners, out)))))
         .fail)
        .fail)
       .fail)
      .fail))
    (.test (decide ((0 = 0) ∧ ((List.length left) = (List.length left))))
     (.test (decide ((0 = 0) ∧ ((List.length corners) = (List.length corners))))
      (.test (decide ((0 = 0) ∧ ((List.length out) = (List.length out))))
       (.test (decide ((0 = 0) ∧ ((List.length left) = (List.length left))))
        (.ret (Sum.inl (((), ((), ((), (at', ((), (t39, (w64 (t40 + 1)))))))), (left, (corners, out)))))
        .fail)
       .fail)
      .fail)
     .fail)))
   .fail)
  (.test (decide ((0 = 0) ∧ ((List.length left) = (List.length left))))
   (.test (decide ((0 = 0) ∧ ((List.length corners) = (List.length corners))))
    (.test (decide ((0 = 0) ∧ ((List.length out) = (List.length out))))
     (.ret (Sum.inr (((), ((), ((), at'))), (left, (corners, out)))))
     .fail)
    .fail)
   .fail))
noncomputable def s_poOf_L13 (v : ((Unit × Unit × Unit × Int × Unit × Int × Int) × (List (Int) × List (Int) × List ((Int × Int))))) : Option ((Unit × Unit × Unit × Int) × (List (Int) × List (Int) × List ((Int × Int)))) := loopO (fun v => (s_poOf_L13_step v).run) v

def s_poOf_L10_sh : LSh := ⟨(fun ex => match ex with | .norm => [(4, none), (5, none), (7, none)] | .exit i => if i = 2 then [(4, none), (7, none)] else [] | .ret => [(2, none), (3, none)]), [(4, (.one (.rw 0 0))), (5, (.one (.rw 1 0))), (7, (.one (.rw 2 0)))], [(.row 0 (.int .i64)), (.row 0 (.int .i64)), (.row 0 (.pair (.int .i64) (.int .i64)))], [⟨.ret, [(2, (.one (.rw 0 0))), (3, (.one .sb))], [(.row 0 (.pair (.int .i64) (.int .i64)))]⟩, ⟨(.exit 2), [(4, (.one (.rw 0 0))), (7, (.one (.rw 1 0)))], [(.row 0 (.int .i64)), (.row 0 (.pair (.int .i64) (.int .i64)))]⟩], [], []⟩
noncomputable def s_poOf_L10_step : ((Unit × Unit × Unit) × (List (Int) × List (Int) × List ((Int × Int)))) → T (((Unit × Unit × Unit) × (List (Int) × List (Int) × List ((Int × Int)))) ⊕ (((Unit × Bool) × List ((Int × Int))) ⊕ ((Unit × Unit) × (List (Int) × List ((Int × Int)))))) := fun (((), (), ()), (left, corners, out)) =>
  (.test (decide (((List.length left) : Int) > 3))
  (.test (decide ((0 = 0) ∧ ((List.length left) = (List.length left))))
   (.test (decide ((0 = 0) ∧ ((List.length corners) = (List.length corners))))
    (.test (decide ((0 = 0) ∧ ((List.length out) = (List.length out))))
     (.test (decide ((0 = 0) ∧ ((List.length left) = (List.length left))))
      (.sub (s_poOf_L13 (((), ((), ((), ((-1), ((), (((List.length left) : Int), (0 : Int))))))), (left, (corners, out)))) fun z0 =>
       (.test (decide (z0.1.2.2.2 < 0))
       (.test true
        (.ret (Sum.inr (Sum.inl (((), false), ([] : List (Int × Int))))))
        .fail)
       (.test (decide (((List.length z0.2.1) : Int) ≠ 0))
        (.test (decide (((List.length z0.2.1) : Int) ≠ 0))
         (.test (decide ((0 ≤ (Int.tmod (w64 ((w64 (z0.1.2.2.2 + ((List.length z0.2.1) : Int))) - 1)) ((List.length z0.2.1) : Int))) ∧ ((Int.tmod (w64 ((w64 (z0.1.2.2.2 + ((List.length z0.2.1) : Int))) - 1)) ((List.length z0.2.1) : Int)) < ((List.length z0.2.1) : Int))))
          (.sub (z0.2.1[(0 + (Int.toNat (Int.tmod (w64 ((w64 (z0.1.2.2.2 + ((List.length z0.2.1) : Int))) - 1)) ((List.length z0.2.1) : Int))))]?) fun z1 =>
           (.test (decide ((0 ≤ (Int.tmod (w64 ((w64 (z0.1.2.2.2 + ((List.length z0.2.1) : Int))) - 1)) ((List.length z0.2.1) : Int))) ∧ ((Int.tmod (w64 ((w64 (z0.1.2.2.2 + ((List.length z0.2.1) : Int))) - 1)) ((List.length z0.2.1) : Int)) < ((List.length z0.2.1) : Int))))
           (.sub (z0.2.1[(0 + (Int.toNat (Int.tmod (w64 ((w64 (z0.1.2.2.2 + ((List.length z0.2.1) : Int))) - 1)) ((List.length z0.2.1) : Int))))]?) fun z2 =>
            (.test (decide ((0 ≤ (Int.tmod (w64 (z0.1.2.2.2 + 1)) ((List.length z0.2.1) : Int))) ∧ ((Int.tmod (w64 (z0.1.2.2.2 + 1)) ((List.length z0.2.1) : Int)) < ((List.length z0.2.1) : Int))))
            (.sub ((List.set z0.2.1 (0 + (Int.toNat (Int.tmod (w64 ((w64 (z0.1.2.2.2 + ((List.length z0.2.1) : Int))) - 1)) ((List.length z0.2.1) : Int)))) (w64 (z1 - 1)))[(0 + (Int.toNat (Int.tmod (w64 (z0.1.2.2.2 + 1)) ((List.length z0.2.1) : Int))))]?) fun z3 =>
             (.test (decide ((0 ≤ (Int.tmod (w64 (z0.1.2.2.2 + 1)) ((List.length z0.2.1) : Int))) ∧ ((Int.tmod (w64 (z0.1.2.2.2 + 1)) ((List.length z0.2.1) : Int)) < ((List.length z0.2.1) : Int))))
             (.sub ((List.set z0.2.1 (0 + (Int.toNat (Int.tmod (w64 ((w64 (z0.1.2.2.2 + ((List.length z0.2.1) : Int))) - 1)) ((List.length z0.2.1) : Int)))) (w64 (z1 - 1)))[(0 + (Int.toNat (Int.tmod (w64 (z0.1.2.2.2 + 1)) ((List.length z0.2.1) : Int))))]?) fun z4 =>
              (.test (decide ((0 ≤ (Int.tmod (w64 ((w64 (z0.1.2.2.2 + ((List.length z0.2.1) : Int))) - 1)) ((List.length z0.2.1) : Int))) ∧ ((Int.tmod (w64 ((w64 (z0.1.2.2.2 + ((List.length z0.2.1) : Int))) - 1)) ((List.length z0.2.1) : Int)) < ((List.length z0.2.1) : Int))))
              (.sub ((List.set (List.set z0.2.1 (0 + (Int.toNat (Int.tmod (w64 ((w64 (z0.1.2.2.2 + ((List.length z0.2.1) : Int))) - 1)) ((List.length z0.2.1) : Int)))) (w64 (z1 - 1))) (0 + (Int.toNat (Int.tmod (w64 (z0.1.2.2.2 + 1)) ((List.length z0.2.1) : Int)))) (w64 (z3 - 1)))[(0 + (Int.toNat (Int.tmod (w64 ((w64 (z0.1.2.2.2 + ((List.length z0.2.1) : Int))) - 1)) ((List.length z0.2.1) : Int))))]?) fun z5 =>
               (.test (decide (z5 < 1))
               (.test true
                (.ret (Sum.inr (Sum.inl (((), false), ([] : List (Int × Int))))))
                .fail)
               (.test (decide ((0 ≤ (Int.tmod (w64 (z0.1.2.2.2 + 1)) ((List.length z0.2.1) : Int))) ∧ ((Int.tmod (w64 (z0.1.2.2.2 + 1)) ((List.length z0.2.1) : Int)) < ((List.length z0.2.1) : Int))))
                (.sub ((List.set (List.set z0.2.1 (0 + (Int.toNat (Int.tmod (w64 ((w64 (z0.1.2.2.2 + ((List.length z0.2.1) : Int))) - 1)) ((List.length z0.2.1) : Int)))) (w64 (z1 - 1))) (0 + (Int.toNat (Int.tmod (w64 (z0.1.2.2.2 + 1)) ((List.length z0.2.1) : Int)))) (w64 (z3 - 1)))[(0 + (Int.toNat (Int.tmod (w64 (z0.1.2.2.2 + 1)) ((List.length z0.2.1) : Int))))]?) fun z6 =>
                 (.test (decide (z6 < 1))
                 (.test true
                  (.ret (Sum.inr (Sum.inl (((), false), ([] : List (Int × Int))))))
                  .fail)
                 (.test (decide ((0 ≤ (Int.tmod (w64 ((w64 (z0.1.2.2.2 + ((List.length z0.2.1) : Int))) - 1)) ((List.length z0.2.1) : Int))) ∧ ((Int.tmod (w64 ((w64 (z0.1.2.2.2 + ((List.length z0.2.1) : Int))) - 1)) ((List.length z0.2.1) : Int)) < ((List.length z0.2.2.1) : Int))))
                  (.sub (z0.2.2.1[(0 + (Int.toNat (Int.tmod (w64 ((w64 (z0.1.2.2.2 + ((List.length z0.2.1) : Int))) - 1)) ((List.length z0.2.1) : Int))))]?) fun z7 =>
                   (.test (decide ((0 ≤ (Int.tmod (w64 (z0.1.2.2.2 + 1)) ((List.length z0.2.1) : Int))) ∧ ((Int.tmod (w64 (z0.1.2.2.2 + 1)) ((List.length z0.2.1) : Int)) < ((List.length z0.2.2.1) : Int))))
                   (.sub (z0.2.2.1[(0 + (Int.toNat (Int.tmod (w64 (z0.1.2.2.2 + 1)) ((List.length z0.2.1) : Int))))]?) fun z8 =>
                    (.sub (s_l1Least (z7, z8)) fun z9 =>
                    (.test (decide ((0 ≤ (Int.tmod (w64 ((w64 (z0.1.2.2.2 + ((List.length z0.2.1) : Int))) - 1)) ((List.length z0.2.1) : Int))) ∧ ((Int.tmod (w64 ((w64 (z0.1.2.2.2 + ((List.length z0.2.1) : Int))) - 1)) ((List.length z0.2.1) : Int)) < ((List.length z0.2.2.1) : Int))))
                    (.sub (z0.2.2.1[(0 + (Int.toNat (Int.tmod (w64 ((w64 (z0.1.2.2.2 + ((List.length z0.2.1) : Int))) - 1)) ((List.length z0.2.1) : Int))))]?) fun z10 =>
                     (.test (decide ((0 ≤ (Int.tmod (w64 (z0.1.2.2.2 + 1)) ((List.length z0.2.1) : Int))) ∧ ((Int.tmod (w64 (z0.1.2.2.2 + 1)) ((List.length z0.2.1) : Int)) < ((List.length z0.2.2.1) : Int))))
                     (.sub (z0.2.2.1[(0 + (Int.toNat (Int.tmod (w64 (z0.1.2.2.2 + 1)) ((List.length z0.2.1) : Int))))]?) fun z11 =>
                      (.sub (s_l1Most (z10, z11)) fun z12 =>
                      (.test (decide (1 ≤ (List.length (List.set (List.replicate 1 ((0 : Int), (0 : Int))) 0 (z9, z12)))))
                      (.test (decide ((0 + (List.length z0.2.2.2)) ≤ (List.length z0.2.2.2)))
                       (.test (decide ((2 * (((List.length z0.2.2.2) + (List.length (win (List.set (List.replicate 1 ((0 : Int), (0 : Int))) 0 (z9, z12)) 0 1))) * 17)) ≤ 140737488355328))
                        (.test (decide (0 ≤ z0.1.2.2.2))
                         (.test (decide ((0 ≤ (Int.toNat z0.1.2.2.2)) ∧ ((Int.toNat z0.1.2.2.2) ≤ (List.length z0.2.1))))
                          (.test (decide ((0 + ((Int.toNat z0.1.2.2.2) - 0)) ≤ (List.length (List.set (List.set z0.2.1 (0 + (Int.toNat (Int.tmod (w64 ((w64 (z0.1.2.2.2 + ((List.length z0.2.1) : Int))) - 1)) ((List.length z0.2.1) : Int)))) (w64 (z1 - 1))) (0 + (Int.toNat (Int.tmod (w64 (z0.1.2.2.2 + 1)) ((List.length z0.2.1) : Int)))) (w64 (z3 - 1))))))
                           (.sub (s_l1Own (win (List.set (List.set z0.2.1 (0 + (Int.toNat (Int.tmod (w64 ((w64 (z0.1.2.2.2 + ((List.length z0.2.1) : Int))) - 1)) ((List.length z0.2.1) : Int)))) (w64 (z1 - 1))) (0 + (Int.toNat (Int.tmod (w64 (z0.1.2.2.2 + 1)) ((List.length z0.2.1) : Int)))) (w64 (z3 - 1))) 0 ((Int.toNat z0.1.2.2.2) - 0))) fun z13 =>
                            (.test (decide (0 ≤ (w64 (z0.1.2.2.2 + 1))))
                            (.test (decide (((Int.toNat (w64 (z0.1.2.2.2 + 1))) ≤ (List.length z0.2.1)) ∧ ((List.length z0.2.1) ≤ (List.length z0.2.1))))
                             (.test (decide (((0 + (Int.toNat (w64 (z0.1.2.2.2 + 1)))) + ((List.length z0.2.1) - (Int.toNat (w64 (z0.1.2.2.2 + 1))))) ≤ (List.length (List.set (List.set z0.2.1 (0 + (Int.toNat (Int.tmod (w64 ((w64 (z0.1.2.2.2 + ((List.length z0.2.1) : Int))) - 1)) ((List.length z0.2.1) : Int)))) (w64 (z1 - 1))) (0 + (Int.toNat (Int.tmod (w64 (z0.1.2.2.2 + 1)) ((List.length z0.2.1) : Int)))) (w64 (z3 - 1))))))
                              (.test (decide ((0 + (List.length z13.2)) ≤ (List.length z13.2)))
                               (.test (decide ((2 * (((List.length z13.2) + (List.length (win (List.set (List.set z0.2.1 (0 + (Int.toNat (Int.tmod (w64 ((w64 (z0.1.2.2.2 + ((List.length z0.2.1) : Int))) - 1)) ((List.length z0.2.1) : Int)))) (w64 (z1 - 1))) (0 + (Int.toNat (Int.tmod (w64 (z0.1.2.2.2 + 1)) ((List.length z0.2.1) : Int)))) (w64 (z3 - 1))) (0 + (Int.toNat (w64 (z0.1.2.2.2 + 1)))) ((List.length z0.2.1) - (Int.toNat (w64 (z0.1.2.2.2 + 1))))))) * 9)) ≤ 140737488355328))
                                (.test (decide (0 ≤ z0.1.2.2.2))
                                 (.test (decide ((0 ≤ (Int.toNat z0.1.2.2.2)) ∧ ((Int.toNat z0.1.2.2.2) ≤ (List.length z0.2.2.1))))
                                  (.test (decide ((0 + ((Int.toNat z0.1.2.2.2) - 0)) ≤ (List.length z0.2.2.1)))
                                   (.sub (s_l1Own (win z0.2.2.1 0 ((Int.toNat z0.1.2.2.2) - 0))) fun z14 =>
                                    (.test (decide (0 ≤ (w64 (z0.1.2.2.2 + 1))))
                                    (.test (decide (((Int.toNat (w64 (z0.1.2.2.2 + 1))) ≤ (List.length z0.2.2.1)) ∧ ((List.length z0.2.2.1) ≤ (List.length z0.2.2.1))))
                                     (.test (decide (((0 + (Int.toNat (w64 (z0.1.2.2.2 + 1)))) + ((List.length z0.2.2.1) - (Int.toNat (w64 (z0.1.2.2.2 + 1))))) ≤ (List.length z0.2.2.1)))
                                      (.test (decide ((0 + (List.length z14.2)) ≤ (List.length z14.2)))
                                       (.test (decide ((2 * (((List.length z14.2) + (List.length (win z0.2.2.1 (0 + (Int.toNat (w64 (z0.1.2.2.2 + 1)))) ((List.length z0.2.2.1) - (Int.toNat (w64 (z0.1.2.2.2 + 1))))))) * 9)) ≤ 140737488355328))
                                        (.test (decide ((0 = 0) ∧ (((List.length z13.2) + (List.length (win (List.set (List.set z0.2.1 (0 + (Int.toNat (Int.tmod (w64 ((w64 (z0.1.2.2.2 + ((List.length z0.2.1) : Int))) - 1)) ((List.length z0.2.1) : Int)))) (w64 (z1 - 1))) (0 + (Int.toNat (Int.tmod (w64 (z0.1.2.2.2 + 1)) ((List.length z0.2.1) : Int)))) (w64 (z3 - 1))) (0 + (Int.toNat (w64 (z0.1.2.2.2 + 1)))) ((List.length z0.2.1) - (Int.toNat (w64 (z0.1.2.2.2 + 1))))))) = (List.length ((win z13.2 0 (List.length z13.2)) ++ (win (List.set (List.set z0.2.1 (0 + (Int.toNat (Int.tmod (w64 ((w64 (z0.1.2.2.2 + ((List.length z0.2.1) : Int))) - 1)) ((List.length z0.2.1) : Int)))) (w64 (z1 - 1))) (0 + (Int.toNat (Int.tmod (w64 (z0.1.2.2.2 + 1)) ((List.length z0.2.1) : Int)))) (w64 (z3 - 1))) (0 + (Int.toNat (w64 (z0.1.2.2.2 + 1)))) ((List.length z0.2.1) - (Int.toNat (w64 (z0.1.2.2.2 + 1))))))))))
                                         (.test (decide ((0 = 0) ∧ (((List.length z14.2) + (List.length (win z0.2.2.1 (0 + (Int.toNat (w64 (z0.1.2.2.2 + 1)))) ((List.length z0.2.2.1) - (Int.toNat (w64 (z0.1.2.2.2 + 1))))))) = (List.length ((win z14.2 0 (List.length z14.2)) ++ (win z0.2.2.1 (0 + (Int.toNat (w64 (z0.1.2.2.2 + 1)))) ((List.length z0.2.2.1) - (Int.toNat (w64 (z0.1.2.2.2 + 1))))))))))
                                          (.test (decide ((0 = 0) ∧ (((List.length z0.2.2.2) + (List.length (win (List.set (List.replicate 1 ((0 : Int), (0 : Int))) 0 (z9, z12)) 0 1))) = (List.length ((win z0.2.2.2 0 (List.length z0.2.2.2)) ++ (win (List.set (List.replicate 1 ((0 : Int), (0 : Int))) 0 (z9, z12)) 0 1))))))
                                           (.ret (Sum.inl (((), ((), ())), (((win z13.2 0 (List.length z13.2)) ++ (win (List.set (List.set z0.2.1 (0 + (Int.toNat (Int.tmod (w64 ((w64 (z0.1.2.2.2 + ((List.length z0.2.1) : Int))) - 1)) ((List.length z0.2.1) : Int)))) (w64 (z1 - 1))) (0 + (Int.toNat (Int.tmod (w64 (z0.1.2.2.2 + 1)) ((List.length z0.2.1) : Int)))) (w64 (z3 - 1))) (0 + (Int.toNat (w64 (z0.1.2.2.2 + 1)))) ((List.length z0.2.1) - (Int.toNat (w64 (z0.1.2.2.2 + 1)))))), (((win z14.2 0 (List.length z14.2)) ++ (win z0.2.2.1 (0 + (Int.toNat (w64 (z0.1.2.2.2 + 1)))) ((List.length z0.2.2.1) - (Int.toNat (w64 (z0.1.2.2.2 + 1)))))), ((win z0.2.2.2 0 (List.length z0.2.2.2)) ++ (win (List.set (List.replicate 1 ((0 : Int), (0 : Int))) 0 (z9, z12)) 0 1)))))))
                                           .fail)
                                          .fail)
                                         .fail)
                                        .fail)
                                       .fail)
                                      .fail)
                                     .fail)
                                    .fail))
                                   .fail)
                                  .fail)
                                 .fail)
                                .fail)
                               .fail)
                              .fail)
                             .fail)
                            .fail))
                           .fail)
                          .fail)
                         .fail)
                        .fail)
                       .fail)
                      .fail)))
                     .fail))
                    .fail)))
                   .fail))
                  .fail)))
                .fail)))
              .fail))
             .fail))
            .fail))
           .fail))
          .fail)
         .fail)
        .fail)))
      .fail)
     .fail)
    .fail)
   .fail)
  (.test (decide ((0 = 0) ∧ ((List.length left) = (List.length left))))
   (.test (decide ((0 = 0) ∧ ((List.length out) = (List.length out))))
    (.ret (Sum.inr (Sum.inr (((), ()), (left, out)))))
    .fail)
   .fail))
noncomputable def s_poOf_L10 (v : ((Unit × Unit × Unit) × (List (Int) × List (Int) × List ((Int × Int))))) : Option (((Unit × Bool) × List ((Int × Int))) ⊕ ((Unit × Unit) × (List (Int) × List ((Int × Int))))) := loopO (fun v => (s_poOf_L10_step v).run) v

def s_poOf_fo : List FO := [⟨[(.one (.rw 0 0)), (.one .sb)], [(.row 0 (.pair (.int .i64) (.int .i64)))]⟩]
noncomputable def s_poOf_t : List (Int) → T ((Unit × Bool) × List ((Int × Int))) := fun quiddity =>
  (.sub (s_poIs ((List.length quiddity) : Int)) fun z0 =>
  (.test (! z0)
  (.test true
   (.ret (((), false), ([] : List (Int × Int))))
   .fail)
  (.sub (s_l1All (quiddity, ((1 : Int), (12 : Int)))) fun z1 =>
   (.test (! z1)
   (.test true
    (.ret (((), false), ([] : List (Int × Int))))
    .fail)
   (.sub (s_l1Own quiddity) fun z2 =>
    (.test (decide ((0 = 0) ∧ ((List.length z2.2) = (List.length z2.2))))
    (.test (decide ((0 = 0) ∧ (0 = (List.length (List.replicate 0 (0 : Int))))))
     (.sub (s_poOf_L5 (((), ((), (((List.length z2.2) : Int), (0 : Int)))), (z2.2, (List.replicate 0 (0 : Int))))) fun z3 =>
      (.test (decide ((0 = 0) ∧ ((List.length z3.2.1) = (List.length z3.2.1))))
      (.test (decide ((0 = 0) ∧ ((List.length z3.2.2) = (List.length z3.2.2))))
       (.test (decide ((0 = 0) ∧ (0 = (List.length ([] : List (Int × Int))))))
        (.sub (s_poOf_L10 (((), ((), ())), (z3.2.1, (z3.2.2, ([] : List (Int × Int)))))) fun z4 =>
         (.test (Sum.isLeft z4)
         (.sub (Sum.getLeft? z4) fun z5 =>
          (.test (decide ((0 = 0) ∧ ((List.length z5.2) = (List.length z5.2))))
          (.ret (((), z5.1.2), z5.2))
          .fail))
         (.sub (Sum.getRight? z4) fun z6 =>
          (.test (decide ((0 + (List.length z6.2.2)) ≤ (List.length z6.2.2)))
          (.sub (s_poSorted (win z6.2.2 0 (List.length z6.2.2))) fun z7 =>
           (.test (decide (((0 : Int) ≤ (0 : Int)) ∧ (0 < ((List.length z6.2.1) : Int))))
           (.sub (z6.2.1[0]?) fun z8 =>
            (.test (z8 == 1)
            (.test (decide (((0 : Int) ≤ (1 : Int)) ∧ (1 < ((List.length z6.2.1) : Int))))
             (.sub (z6.2.1[1]?) fun z9 =>
              (.test (z9 == 1)
              (.test (decide (((0 : Int) ≤ (2 : Int)) ∧ (2 < ((List.length z6.2.1) : Int))))
               (.sub (z6.2.1[2]?) fun z10 =>
                (.test (decide ((0 = 0) ∧ ((List.length z7.2) = (List.length z7.2))))
                (.ret (((), (z10 == 1)), z7.2))
                .fail))
               .fail)
              (.test (decide ((0 = 0) ∧ ((List.length z7.2) = (List.length z7.2))))
               (.ret (((), false), z7.2))
               .fail)))
             .fail)
            (.test (decide ((0 = 0) ∧ ((List.length z7.2) = (List.length z7.2))))
             (.ret (((), false), z7.2))
             .fail)))
           .fail))
          .fail))))
        .fail)
       .fail)
      .fail))
     .fail)
    .fail))))))
noncomputable def s_poOf (v : List (Int)) : Option ((Unit × Bool) × List ((Int × Int))) := (s_poOf_t v).run
noncomputable def s_poOf_E : TEnv := ((((((E0.add1 n_s_poIs s_poIs_sh s_poIs_fo s_poIs).add1 n_s_l1All s_l1All_sh s_l1All_fo s_l1All).add1 n_s_l1Own s_l1Own_sh s_l1Own_fo s_l1Own).add1 n_s_l1Least s_l1Least_sh s_l1Least_fo s_l1Least).add1 n_s_l1Most s_l1Most_sh s_l1Most_fo s_l1Most).add1 n_s_poSorted s_poSorted_sh s_poSorted_fo s_poSorted)
theorem s_poOf_Eok : (s_poOf_E).OK := ((((((E0ok.add1 s_poIs_ok).add1 s_l1All_ok).add1 s_l1Own_ok).add1 s_l1Least_ok).add1 s_l1Most_ok).add1 s_poSorted_ok)
noncomputable def s_poOf_told : Nat → Option SealT := fun id => if id = 5 then some (LSh.told s_poOf_L5_sh 0 (s_poOf_L5_step)) else if id = 13 then some (LSh.told s_poOf_L13_sh 0 (s_poOf_L13_step)) else if id = 10 then some (LSh.told s_poOf_L10_sh 0 (s_poOf_L10_step)) else none
theorem s_poOf_L5_ok : ToldOK Tryz.prog 0 (loopAt (bodyOf fn_s_poOf) [0]) (LSh.told s_poOf_L5_sh 0 (s_poOf_L5_step)) :=
  loop_ok (E := s_poOf_E) (s_poOf_Eok) (told := s_poOf_told) (l := s_poOf_L5_sh) (step := s_poOf_L5_step) (loopsOK_of (ls := []) (by kernel_rfl) trivial) (by kernel_rfl) (fun v => by kernel_rfl)
theorem s_poOf_L13_ok : ToldOK Tryz.prog 0 (loopAt (bodyOf fn_s_poOf) [1, 0]) (LSh.told s_poOf_L13_sh 0 (s_poOf_L13_step)) :=
  loop_ok (E := s_poOf_E) (s_poOf_Eok) (told := s_poOf_told) (l := s_poOf_L13_sh) (step := s_poOf_L13_step) (loopsOK_of (ls := []) (by kernel_rfl) trivial) (by kernel_rfl) (fun v => by kernel_rfl)
theorem s_poOf_L10_ok : ToldOK Tryz.prog 0 (loopAt (bodyOf fn_s_poOf) [1]) (LSh.told s_poOf_L10_sh 0 (s_poOf_L10_step)) :=
  loop_ok (E := s_poOf_E) (s_poOf_Eok) (told := s_poOf_told) (l := s_poOf_L10_sh) (step := s_poOf_L10_step) (loopsOK_of (ls := [loopAt (bodyOf fn_s_poOf) [1, 0]]) (by kernel_rfl) ⟨.inr ⟨_, by kernel_rfl, s_poOf_L13_ok⟩, trivial⟩) (by kernel_rfl) (fun v => by kernel_rfl)
theorem s_poOf_ok : FOK Tryz.prog n_s_poOf s_poOf_sh s_poOf_fo s_poOf :=
  fn_ok (E := s_poOf_E) (s_poOf_Eok) (told := s_poOf_told) (fl := []) (c := bodyOf fn_s_poOf) (s := s_poOf_sh) (l := s_poOf_fo) (tree := s_poOf_t) fnat_s_poOf (by kernel_rfl) (by kernel_rfl) (by kernel_rfl) (loopsOK_of (ls := [loopAt (bodyOf fn_s_poOf) [0], loopAt (bodyOf fn_s_poOf) [1]]) (by kernel_rfl) ⟨.inr ⟨_, by kernel_rfl, s_poOf_L5_ok⟩, ⟨.inr ⟨_, by kernel_rfl, s_poOf_L10_ok⟩, trivial⟩⟩) (fun v => by kernel_rfl)

theorem s_poOf_names (left : List Int) (hl : left.length < 1000000) : s_poOf_L5 (((), ((), ((left.length : Int), (0 : Int)))), (left, [])) = some (((), ()), (left, nameL left.length)) := by
  have key : ∀ m k, k + m = left.length → s_poOf_L5 (((), ((), ((left.length : Int), (k : Int)))), (left, nameL k)) = some (((), ()), (left, nameL left.length)) := by
    intro m
    induction m with
    | zero =>
      intro k hk
      have : k = left.length := by omega
      subst this
      simp only [s_poOf_L5]
      exact loopO_done (by simp [s_poOf_L5_step, T.run])
    | succ m ih =>
      intro k hk
      have ih := ih (k + 1) (by omega)
      simp only [s_poOf_L5] at ih ⊢
      rw [← ih]
      refine loopO_next ?_
      have c0 : (k : Int) < (left.length : Int) := by omega
      have w1 : w64 ((k : Int) + 1) = ((k + 1 : Nat) : Int) := by rw [w64_id (by omega) (by omega)]; omega
      have hw : win (nameL k) 0 k = nameL k := by have := win_all (nameL k); rwa [nameL_length] at this
      have c1 : 2 * ((k + 1) * 9) ≤ 140737488355328 := by omega
      have hs : nameL k ++ [(k : Int)] = nameL (k + 1) := (nameL_succ k).symm
      simp only [s_poOf_L5_step, T.run, c0, decide_true, if_true, win_one, nameL_length, hw, w1, List.length_cons, List.length_nil, c1, hs, Nat.zero_add]
      simp [c1]
  simpa [nameL] using key left.length 0 (by omega)
theorem s_poOf_first (left corners : List Int) (out : List Dg) (hl : left.length < 1000000) :
    s_poOf_L13 (((), ((), ((), ((-1), ((), ((left.length : Int), (0 : Int))))))), (left, (corners, out))) = some (((), ((), ((), idxI (fun x => (1 : Int) == x) left))), (left, (corners, out))) := by
  have key : ∀ m k (at' : Int), k + m = left.length → (at' < 0 → at' = -1) → s_poOf_L13 (((), ((), ((), (at', ((), ((left.length : Int), (k : Int))))))), (left, (corners, out))) =
      some (((), ((), ((), if at' < 0 then (match (left.drop k).findIdx? (fun x => (1 : Int) == x) with | some i => ((k + i : Nat) : Int) | none => -1) else at'))), (left, (corners, out))) := by
    intro m
    induction m with
    | zero =>
      intro k at' hk ha
      have : k = left.length := by omega
      subst this
      rw [List.drop_length]
      simp only [s_poOf_L13]
      refine loopO_done ?_
      by_cases h : at' < 0
      · have := ha h; subst this; simp [s_poOf_L13_step, T.run]
      · simp [s_poOf_L13_step, T.run, h]
    | succ m ih =>
      intro k at' hk ha
      have hlt : k < left.length := by omega
      have g0 := List.getElem?_eq_getElem hlt
      have c0 : (k : Int) < (left.length : Int) := by omega
      have c1 : (0 : Int) ≤ (k : Int) ∧ (k : Int) < (left.length : Int) := by omega
      have w1 : w64 ((k : Int) + 1) = ((k + 1 : Nat) : Int) := by rw [w64_id (by omega) (by omega)]; omega
      rw [List.drop_eq_getElem_cons hlt, List.findIdx?_cons]
      have st : (s_poOf_L13_step (((), ((), ((), (at', ((), ((left.length : Int), (k : Int))))))), (left, (corners, out)))).run =
          some (.inl (((), ((), ((), ((if (left[k] == 1) = true ∧ at' < 0 then (k : Int) else at'), ((), ((left.length : Int), ((k + 1 : Nat) : Int))))))), (left, (corners, out)))) := by
        simp only [s_poOf_L13_step, T.run, c0, c1, decide_true, if_true, and_self, Int.toNat_natCast, Nat.zero_add, g0, Option.bind_some, w1]
        cases hb : left[k] == 1 <;> by_cases h : at' < 0 <;> simp [h]
      have ih' := ih (k + 1) (if (left[k] == 1) = true ∧ at' < 0 then (k : Int) else at') (by omega) (by split <;> omega)
      simp only [s_poOf_L13] at ih' ⊢
      rw [loopO_next st, ih']
      have hsym : ((1 : Int) == left[k]) = (left[k] == 1) := by rw [beq_int, beq_int]; congr 1; exact propext eq_comm
      rw [hsym]
      cases hb : left[k] == 1 with
      | true =>
        by_cases h : at' < 0
        · have : ¬ ((k : Int) < 0) := by omega
          simp [h, this]
        · simp [h]
      | false =>
        by_cases h : at' < 0
        · simp only [Bool.false_eq_true, false_and, if_false, h, if_true]
          cases (left.drop (k + 1)).findIdx? (fun x => (1 : Int) == x) with
          | none => rfl
          | some i => simp only [Option.map_some]; rw [show k + 1 + i = k + (i + 1) by omega]
        · simp [h]
  have := key left.length 0 (-1) (by omega) (fun _ => rfl)
  rw [Int.natCast_zero, List.drop_zero] at this
  rw [this]
  simp only [idxI]
  simp
  rfl
theorem s_poOf_cut (left names : List Int) (out : List Dg) (k i : Nat) (hk : k < 100000) (hl : left.length = k + 4) (hn : names.length = k + 4) (ho : out.length < 100000) (he : ear left = some i) :
    (s_poOf_L10_step (((), ((), ())), (left, (names, out)))).run = some (if okC left i then .inl (((), ((), ())), (cutL left i, (names.eraseIdx i, out ++ [cutD names i]))) else .inr (.inl (((), false), []))) := by
  obtain ⟨hi, _⟩ := ear_lt he
  obtain ⟨n1, n2, n3, n4, n5, n6⟩ := nb_facts (by omega : 3 ≤ left.length) hi
  obtain ⟨t1, t2⟩ := nb_tmod (by omega : 3 ≤ left.length) (by omega) hi
  have hf := s_poOf_first left names out (by omega)
  have hii : idxI (fun x => (1 : Int) == x) left = (i : Int) := by unfold idxI; unfold ear at he; rw [he]
  rw [hii] at hf
  have c0 : (left.length : Int) > 3 := by omega
  have c1 : ¬ ((i : Int) < 0) := by omega
  have c2 : (left.length : Int) ≠ 0 := by omega
  have c3 : (0 : Int) ≤ (nbB left.length i : Int) ∧ (nbB left.length i : Int) < (left.length : Int) := by omega
  have c4 : (0 : Int) ≤ (nbC left.length i : Int) ∧ (nbC left.length i : Int) < (left.length : Int) := by omega
  have c5 : (0 : Int) ≤ (nbB left.length i : Int) ∧ (nbB left.length i : Int) < (names.length : Int) := by omega
  have c6 : (0 : Int) ≤ (nbC left.length i : Int) ∧ (nbC left.length i : Int) < (names.length : Int) := by omega
  have g1 := set_getD n1
  have g2 : (left.set (nbB left.length i) (w64 (left.getD (nbB left.length i) 0 - 1)))[nbC left.length i]? = some ((decAt left (nbB left.length i)).getD (nbC left.length i) 0) := set_getD (by simpa using n2)
  have g2' : (decAt left (nbB left.length i)).getD (nbC left.length i) 0 = left.getD (nbC left.length i) 0 := by
    unfold decAt
    simp only [List.getD_eq_getElem?_getD]
    rw [List.getElem?_set_ne n5]
  have g3 := set_getD (l := names) (p := nbB left.length i) (by omega)
  have g4 := set_getD (l := names) (p := nbC left.length i) (by omega)
  have w1 : w64 ((i : Int) + 1) = ((i + 1 : Nat) : Int) := by rw [w64_id (by omega) (by omega)]; omega
  rw [w1] at t2
  have hD' : (min (names.getD (nbB left.length i) 0) (names.getD (nbC left.length i) 0), max (names.getD (nbB left.length i) 0) (names.getD (nbC left.length i) 0)) = cutD names i := by unfold cutD; rw [hl, hn]
  have hmin : ∀ a b, s_l1Least (a, b) = some (min a b) := by
    intro a b
    simp only [s_l1Least, s_l1Least_t, T.run]
    by_cases h : a < b <;> simp [h] <;> omega
  have hmax : ∀ a b, s_l1Most (a, b) = some (max a b) := by
    intro a b
    simp only [s_l1Most, s_l1Most_t, T.run]
    by_cases h : a > b <;> simp [h] <;> omega
  have c7 : 2 * ((out.length + 1) * 17) ≤ 140737488355328 := by omega
  have l1 : (decAt (decAt left (nbB left.length i)) (nbC left.length i)).length = left.length := by rw [decAt_length, decAt_length]
  have e1 : left.set (nbB left.length i) (w64 (left.getD (nbB left.length i) 0 - 1)) = decAt left (nbB left.length i) := rfl
  have e2 : (decAt left (nbB left.length i)).set (nbC left.length i) (w64 (left.getD (nbC left.length i) 0 - 1)) = decAt (decAt left (nbB left.length i)) (nbC left.length i) := by unfold decAt; rw [← decAt, g2']
  have g5 : (decAt (decAt left (nbB left.length i)) (nbC left.length i))[nbB left.length i]? = some (w64 (left.getD (nbB left.length i) 0 - 1)) := by
    conv => lhs; unfold decAt
    rw [List.getElem?_set_ne (Ne.symm n5), List.getElem?_set_self n1]
  have g6 : (decAt (decAt left (nbB left.length i)) (nbC left.length i))[nbC left.length i]? = some (w64 (left.getD (nbC left.length i) 0 - 1)) := by
    rw [← e2, List.getElem?_set_self (by rw [decAt_length]; exact n2)]
  rw [e1, g2'] at g2
  have htl : ((decAt (decAt left (nbB left.length i)) (nbC left.length i)).take i).length = i := by rw [List.length_take, l1]; omega
  have htn : (names.take i).length = i := by rw [List.length_take]; omega
  have own1 := s_l1Own_eq ((decAt (decAt left (nbB left.length i)) (nbC left.length i)).take i) (by rw [htl]; omega)
  have own2 := s_l1Own_eq (names.take i) (by rw [htn]; omega)
  have d1 : win (decAt (decAt left (nbB left.length i)) (nbC left.length i)) (i + 1) (left.length - (i + 1)) = (decAt (decAt left (nbB left.length i)) (nbC left.length i)).drop (i + 1) := by
    unfold win; rw [List.take_of_length_le (by rw [List.length_drop, l1]; omega)]
  have d2 : win names (i + 1) (names.length - (i + 1)) = names.drop (i + 1) := by
    unfold win; rw [List.take_of_length_le (by rw [List.length_drop]; omega)]
  have x1 : (decAt (decAt left (nbB left.length i)) (nbC left.length i)).take i ++ (decAt (decAt left (nbB left.length i)) (nbC left.length i)).drop (i + 1) = cutL left i := take_drop_erase _ _
  have x2 : names.take i ++ names.drop (i + 1) = names.eraseIdx i := take_drop_erase _ _
  have f1 : (0 : Int) ≤ (i : Int) := by omega
  have f2 : 0 ≤ i ∧ i ≤ left.length := by omega
  have f3 : i ≤ left.length := by omega
  have f4 : (0 : Int) ≤ ((i + 1 : Nat) : Int) := by omega
  have f5 : i + 1 ≤ left.length ∧ left.length ≤ left.length := by omega
  have f6 : i + 1 + (left.length - (i + 1)) ≤ left.length := by omega
  have f7 : 2 * ((i + (left.length - (i + 1))) * 9) ≤ 140737488355328 := by omega
  have f8 : 0 ≤ i ∧ i ≤ names.length := by omega
  have f9 : i ≤ names.length := by omega
  have f10 : i + 1 ≤ names.length ∧ names.length ≤ names.length := by omega
  have f11 : i + 1 + (names.length - (i + 1)) ≤ names.length := by omega
  have f12 : 2 * ((i + (names.length - (i + 1))) * 9) ≤ 140737488355328 := by omega
  have f13 : i + (left.length - (i + 1)) = (cutL left i).length := by rw [cutL_length hi]; omega
  have f14 : i + (names.length - (i + 1)) = (names.eraseIdx i).length := by rw [List.length_eraseIdx, if_pos (by omega)]; omega
  have x1' := x1
  have x2' := x2
  simp only [s_poOf_L10_step, T.run, c0, decide_true, if_true, Nat.zero_add, Nat.le_refl, hf, Option.bind_some, c1, decide_false, Bool.false_eq_true, if_false, c2, ne_eq, not_false_eq_true, t1, t2, c3, c4, c5, c6, and_self, Int.toNat_natCast, g1, e1, g2, e2, g3, g4, g5, g6, hmin, hmax, hD', win_one, w1, l1, true_and, win_take, Nat.sub_zero, f1, f2, f3, f4, own1, own2, htl, htn, d1, d2]
  have tk : ∀ {X : Type} (l : List X), (l.take i).take i = l.take i := fun l => by rw [List.take_take, Nat.min_self]
  have dl1 : ((decAt (decAt left (nbB left.length i)) (nbC left.length i)).drop (i + 1)).length = left.length - (i + 1) := by rw [List.length_drop, l1]
  have dl2 : (names.drop (i + 1)).length = names.length - (i + 1) := by rw [List.length_drop]
  have t1' : List.take 1 ((List.replicate 1 ((0 : Int), (0 : Int))).set 0 (cutD names i)) = [cutD names i] := rfl
  have t2' : ((List.replicate 1 ((0 : Int), (0 : Int))).set 0 (cutD names i)).length = 1 := rfl
  have f5' : i + 1 ≤ left.length := by omega
  have f7' : 2 * ((cutL left i).length * 9) ≤ 140737488355328 := by rw [← f13]; exact f7
  have f12' : 2 * ((names.eraseIdx i).length * 9) ≤ 140737488355328 := by rw [← f14]; exact f12
  have f10' : i + 1 ≤ names.length := by omega
  simp only [tk, dl1, dl2, t1', t2', List.take_length, x1, x2, f5', f6, f7, f7', f9, f10', f11, f12, f12', f13, f14, and_true, decide_true, if_true, List.length_cons, List.length_nil, Nat.zero_add, c7, List.length_append, Nat.le_refl]
  unfold okC
  by_cases h1 : w64 (left.getD (nbB left.length i) 0 - 1) < 1
  · have h1' : ¬ (1 ≤ w64 (left.getD (nbB left.length i) 0 - 1)) := by omega
    simp only [h1, h1', decide_true, if_true, false_and, decide_false, Bool.false_eq_true, if_false]
  · have h1' : 1 ≤ w64 (left.getD (nbB left.length i) 0 - 1) := by omega
    by_cases h2 : w64 (left.getD (nbC left.length i) 0 - 1) < 1
    · have h2' : ¬ (1 ≤ w64 (left.getD (nbC left.length i) 0 - 1)) := by omega
      simp only [h1, h1', h2, h2', decide_true, if_true, and_false, decide_false, Bool.false_eq_true, if_false]
    · have h2' : 1 ≤ w64 (left.getD (nbC left.length i) 0 - 1) := by omega
      simp only [h1, h1', h2, h2', decide_true, if_true, and_self, decide_false, Bool.false_eq_true, if_false]
theorem s_poOf_cuts : ∀ (k : Nat) (left names : List Int) (out : List Dg), k < 1000 → left.length = k + 3 → names.length = k + 3 → out.length + k < 10000 →
    s_poOf_L10 (((), ((), ())), (left, (names, out))) = some (match triSW k left names with
      | none => .inl (((), false), [])
      | some r => .inr (((), ()), (r.1, out ++ r.2)))
  | 0, left, names, out, hk, hl, hn, ho => by
    simp only [s_poOf_L10, triSW]
    refine loopO_done ?_
    have c0 : ¬ ((left.length : Int) > 3) := by omega
    simp [s_poOf_L10_step, T.run, c0]
  | k + 1, left, names, out, hk, hl, hn, ho => by
    cases he : ear left with
    | none =>
      have hf := s_poOf_first left names out (by omega)
      have hii : idxI (fun x => (1 : Int) == x) left = -1 := by unfold idxI; unfold ear at he; rw [he]
      rw [hii] at hf
      have c0 : (left.length : Int) > 3 := by omega
      simp only [s_poOf_L10, triSW, he]
      refine loopO_done ?_
      simp only [s_poOf_L10_step, T.run, c0, decide_true, if_true, hf, Option.bind_some, true_and]
      simp
    | some i =>
      have st := s_poOf_cut left names out k i (by omega) (by omega) (by omega) (by omega) he
      simp only [s_poOf_L10, triSW, he] at st ⊢
      cases hok : okC left i with
      | false =>
        rw [hok] at st
        rw [loopO_done st]
        rfl
      | true =>
        rw [hok] at st
        have hlc := cutL_length (ear_lt he).1
        have ih := s_poOf_cuts k (cutL left i) (names.eraseIdx i) (out ++ [cutD names i]) (by omega) (by omega) (by rw [List.length_eraseIdx, if_pos (by have := (ear_lt he).1; omega)]; omega) (by simp; omega)
        simp only [s_poOf_L10] at ih
        rw [loopO_next st, ih]
        cases triSW k (cutL left i) (names.eraseIdx i) with
        | none => rfl
        | some r => simp
theorem s_poOf_eq (l : List Int) (hl : l.length < 4611686018427387904) : ∃ r, r.length ≤ 9 ∧ s_poOf l = some (match trOf l with | some ds => (((), true), ds) | none => (((), false), r)) ∧ ((trOf l).isSome → ∀ ds, trOf l = some ds → ds.length ≤ 9) := by
  have hdl : ∀ ds, trOf l = some ds → ds.length ≤ 9 := by
    intro ds h
    unfold trOf at h
    split at h
    · rename_i hn
      rw [inB_iff] at hn
      split at h
      · rename_i es hT
        split at h
        · cases h
          rw [sortD_length, (tri_good _ _ _ _ (nameL_sorted _) (by omega) (by rw [nameL_length]; omega) hT).1]
          omega
        · cases h
      · cases h
    · cases h
  simp only [s_poOf, s_poOf_t, T.run, s_poIs, s_poIs_t, s_l1In_eq, Option.bind_some]
  cases hn : inB 3 12 (l.length : Int) with
  | false => exact ⟨[], by simp, by simp [trOf, hn], fun _ => hdl⟩
  | true =>
    have hn' := inB_iff.1 hn
    rw [s_l1All_eq l 1 12 hl]
    cases ha : l.all (inB 1 12) with
    | false => exact ⟨[], by simp, by simp [trOf_bad l ha], fun _ => hdl⟩
    | true =>
      have hown := s_l1Own_eq l (by omega)
      have h5 := s_poOf_names l (by omega)
      have h10 := s_poOf_cuts (l.length - 3) l (nameL l.length) [] (by omega) (by omega) (by rw [nameL_length]; omega) (by simp; omega)
      have htri := triS_W (l.length - 3) l (nameL l.length)
      have hsp := trOf_spec l ha hn
      simp only [Bool.not_true, Bool.false_eq_true, if_false, Option.bind_some, hown, List.replicate_zero, List.length_nil, true_and, decide_true, if_true, h5, h10]
      cases hW : triSW (l.length - 3) l (nameL l.length) with
      | none =>
        rw [htri, hW] at hsp
        exact ⟨[], by simp, by rw [← hsp]; simp, fun _ => hdl⟩
      | some r =>
        obtain ⟨l3, ds⟩ := r
        obtain ⟨g1, g2⟩ := triSW_len _ _ _ _ (by omega) hW
        simp only at g1 g2
        rw [htri, hW] at hsp
        have hs := s_poSorted_eq ds (by omega)
        have hls := sortD_length ds
        match l3, g1 with
        | [a, b, c], _ =>
          refine ⟨sortD ds, by omega, ?_, fun _ => hdl⟩
          rw [← hsp]
          simp only [Sum.isLeft, Sum.getRight?, Option.bind_some, Bool.false_eq_true, if_false, List.nil_append, Nat.zero_add, Nat.le_refl, decide_true, if_true, win_all, hs]
          by_cases ea : a = 1 <;> by_cases eb : b = 1 <;> by_cases ec : c = 1 <;> simp [ea, eb, ec]


def s_TriangulationOf_sh : FSh := ⟨[(.one (.sl (.int .i64) false false))], []⟩

def s_TriangulationOf_fo : List FO := [⟨[(.one (.rw 0 0)), (.one .sb)], [(.row 0 (.pair (.int .i64) (.int .i64)))]⟩]
noncomputable def s_TriangulationOf_t : List (Int) → T ((Unit × Bool) × List ((Int × Int))) := fun quiddity =>
  (.sub (s_poOf quiddity) fun z0 =>
  (.test (! z0.1.2)
  (.test true
   (.ret (((), false), ([] : List (Int × Int))))
   .fail)
  (.test (decide ((0 = 0) ∧ ((List.length z0.2) = (List.length z0.2))))
   (.ret (((), true), z0.2))
   .fail)))
noncomputable def s_TriangulationOf (v : List (Int)) : Option ((Unit × Bool) × List ((Int × Int))) := (s_TriangulationOf_t v).run
noncomputable def s_TriangulationOf_E : TEnv := (E0.add1 n_s_poOf s_poOf_sh s_poOf_fo s_poOf)
theorem s_TriangulationOf_Eok : (s_TriangulationOf_E).OK := (E0ok.add1 s_poOf_ok)
noncomputable def s_TriangulationOf_told : Nat → Option SealT := fun id => none
theorem s_TriangulationOf_ok : FOK Tryz.prog n_s_TriangulationOf s_TriangulationOf_sh s_TriangulationOf_fo s_TriangulationOf :=
  fn_ok (E := s_TriangulationOf_E) (s_TriangulationOf_Eok) (told := s_TriangulationOf_told) (fl := []) (c := bodyOf fn_s_TriangulationOf) (s := s_TriangulationOf_sh) (l := s_TriangulationOf_fo) (tree := s_TriangulationOf_t) fnat_s_TriangulationOf (by kernel_rfl) (by kernel_rfl) (by kernel_rfl) (loopsOK_of (ls := []) (by kernel_rfl) trivial) (fun v => by kernel_rfl)


/-- Equal diagonals, as the code compares them. -/
def eqD (d e : Dg) : Bool := d.1 == e.1 && (d.2 == e.2 && true)
theorem eqD_iff (d e : Dg) : eqD d e = true ↔ d = e := by
  obtain ⟨a, b⟩ := d
  obtain ⟨x, y⟩ := e
  simp [eqD]
theorem eqD_comm (d e : Dg) : eqD d e = eqD e d := by
  cases h : eqD e d with
  | true => rw [eqD_iff] at h ⊢; exact h.symm
  | false =>
    cases h2 : eqD d e with
    | false => rfl
    | true => rw [eqD_iff] at h2; rw [h2, (eqD_iff e e).2 rfl] at h; cases h
def hasD (s : List Dg) (d : Dg) : Bool := s.any (eqD d)
def dOf (q : List Int) : List Dg := (trOf q).getD []
def sdR (p : List Int) : Bool × List Dg := match (solR p).1, (solR p).2 with
  | true, q :: t => (true, t.foldl (fun out r => out.filter (hasD (dOf r))) (dOf q))
  | _, _ => (false, [])
theorem dOf_len (q : List Int) : (dOf q).length ≤ 9 := by
  have hdl : ∀ ds, trOf q = some ds → ds.length ≤ 9 := by
    intro ds h
    unfold trOf at h
    split at h
    · rename_i hn
      rw [inB_iff] at hn
      split at h
      · rename_i es hT
        split at h
        · cases h
          rw [sortD_length, (tri_good _ _ _ _ (nameL_sorted _) (by omega) (by rw [nameL_length]; omega) hT).1]
          omega
        · cases h
      · cases h
    · cases h
  unfold dOf
  cases h : trOf q with
  | none => exact Nat.zero_le _
  | some ds => exact hdl ds h


def s_SureDiagonals_sh : FSh := ⟨[(.ag [(.sl (.int .i64) false false)])], []⟩

def s_SureDiagonals_L16_sh : LSh := ⟨(fun ex => match ex with | .norm => [(4, none), (8, none), (10, none), (11, none), (16, none), (38, none), (39, none), (40, none), (44, none), (45, none), (46, none), (55, none), (56, none), (57, none)] | .exit i => if i = 4 then [(4, none), (8, none), (10, none), (11, none), (16, none), (38, none), (39, none), (40, none), (44, none), (45, none), (46, none)] else if i = 3 then [(4, none), (8, none), (10, none), (11, none), (38, none), (39, none), (40, none), (44, none), (45, none), (46, none)] else if i = 2 then [(4, none), (8, none), (10, none), (11, none), (38, none), (39, none), (40, none)] else if i = 1 then [(4, none), (8, none), (38, none), (39, none), (40, none)] else if i = 0 then [(8, none)] else [] | .ret => [(2, none), (3, none)]), [(4, (.one (.rw 0 0))), (8, (.one (.rw 1 0))), (10, (.one (.pf 2 0 0))), (11, (.one .sb)), (16, (.one .sb)), (38, (.one (.rw 3 0))), (39, (.one (.si .i64))), (40, (.one (.si .i64))), (44, (.one (.rw 0 0))), (45, (.one (.si .i64))), (46, (.one (.si .i64))), (55, (.one (.rw 4 0))), (56, (.one (.si .i64))), (57, (.one (.si .i64)))], [(.row 0 (.list true (.int .i64))), (.row 0 (.pair (.int .i64) (.int .i64))), (.rcd 0 [(.si .i64), (.si .i64)]), (.row 0 (.pair (.int .i64) (.int .i64))), (.row 0 (.pair (.int .i64) (.int .i64)))], [⟨(.exit 4), [(4, (.one (.rw 0 0))), (8, (.one (.rw 1 0))), (10, (.one (.pf 2 0 0))), (11, (.one .sb)), (16, (.one .sb)), (38, (.one (.rw 3 0))), (39, (.one (.si .i64))), (40, (.one (.si .i64))), (44, (.one (.rw 0 0))), (45, (.one (.si .i64))), (46, (.one (.si .i64)))], [(.row 0 (.list true (.int .i64))), (.row 0 (.pair (.int .i64) (.int .i64))), (.rcd 0 [(.si .i64), (.si .i64)]), (.row 0 (.pair (.int .i64) (.int .i64)))]⟩], [], []⟩
noncomputable def s_SureDiagonals_L16_step : ((Unit × Unit × Unit × Bool × Bool × Unit × Int × Int × Unit × Int × Int × Unit × Int × Int) × (List (List (Int)) × List ((Int × Int)) × (Int × Int) × List ((Int × Int)) × List ((Int × Int)))) → T (((Unit × Unit × Unit × Bool × Bool × Unit × Int × Int × Unit × Int × Int × Unit × Int × Int) × (List (List (Int)) × List ((Int × Int)) × (Int × Int) × List ((Int × Int)) × List ((Int × Int)))) ⊕ ((Unit × Unit × Unit × Bool × Bool × Unit × Int × Int × Unit × Int × Int) × (List (List (Int)) × List ((Int × Int)) × (Int × Int) × List ((Int × Int))))) := fun (((), (), (), sure, has, (), t39, t40, (), t45, t46, (), t56, t57), (all, out, (d_0, d_1), t38, t55)) =>
  (.test (decide (t57 < t56))
  (.test (decide ((0 ≤ t57) ∧ (t57 < ((List.length t55) : Int))))
   (.sub (t55[(0 + (Int.toNat t57))]?) fun z0 =>
    (.test has
    (.test (decide ((0 = 0) ∧ ((List.length all) = (List.length all))))
     (.test (decide ((0 = 0) ∧ ((List.length out) = (List.length out))))
      (.test (decide ((0 = 0) ∧ ((List.length t38) = (List.length t38))))
       (.test (decide ((0 = 0) ∧ ((List.length all) = (List.length all))))
        (.test (decide ((0 = 0) ∧ ((List.length t55) = (List.length t55))))
         (.ret (Sum.inl (((), ((), ((), (sure, (true, ((), (t39, (t40, ((), (t45, (t46, ((), (t56, (w64 (t57 + 1))))))))))))))), (all, (out, ((d_0, d_1), (t38, t55)))))))
         .fail)
        .fail)
       .fail)
      .fail)
     .fail)
    (.test (decide ((0 = 0) ∧ ((List.length all) = (List.length all))))
     (.test (decide ((0 = 0) ∧ ((List.length out) = (List.length out))))
      (.test (decide ((0 = 0) ∧ ((List.length t38) = (List.length t38))))
       (.test (decide ((0 = 0) ∧ ((List.length all) = (List.length all))))
        (.test (decide ((0 = 0) ∧ ((List.length t55) = (List.length t55))))
         (.ret (Sum.inl (((), ((), ((), (sure, (((z0.1 == d_0) && ((z0.2 == d_1) && true)), ((), (t39, (t40, ((), (t45, (t46, ((), (t56, (w64 (t57 + 1))))))))))))))), (all, (out, ((d_0, d_1), (t38, t55)))))))
         .fail)
        .fail)
       .fail)
      .fail)
     .fail)))
   .fail)
  (.test (decide ((0 = 0) ∧ ((List.length all) = (List.length all))))
   (.test (decide ((0 = 0) ∧ ((List.length out) = (List.length out))))
    (.test (decide ((0 = 0) ∧ ((List.length t38) = (List.length t38))))
     (.test (decide ((0 = 0) ∧ ((List.length all) = (List.length all))))
      (.ret (Sum.inr (((), ((), ((), (sure, (has, ((), (t39, (t40, ((), (t45, t46)))))))))), (all, (out, ((d_0, d_1), t38))))))
      .fail)
     .fail)
    .fail)
   .fail))
noncomputable def s_SureDiagonals_L16 (v : ((Unit × Unit × Unit × Bool × Bool × Unit × Int × Int × Unit × Int × Int × Unit × Int × Int) × (List (List (Int)) × List ((Int × Int)) × (Int × Int) × List ((Int × Int)) × List ((Int × Int))))) : Option ((Unit × Unit × Unit × Bool × Bool × Unit × Int × Int × Unit × Int × Int) × (List (List (Int)) × List ((Int × Int)) × (Int × Int) × List ((Int × Int)))) := loopO (fun v => (s_SureDiagonals_L16_step v).run) v

def s_SureDiagonals_L11_sh : LSh := ⟨(fun ex => match ex with | .norm => [(4, none), (8, none), (10, none), (11, none), (38, none), (39, none), (40, none), (44, none), (45, none), (46, none)] | .exit i => if i = 2 then [(4, none), (8, none), (10, none), (11, none), (38, none), (39, none), (40, none)] else if i = 1 then [(4, none), (8, none), (38, none), (39, none), (40, none)] else if i = 0 then [(8, none)] else [] | .ret => [(2, none), (3, none)]), [(4, (.one (.rw 0 0))), (8, (.one (.rw 1 0))), (10, (.one (.pf 2 0 0))), (11, (.one .sb)), (38, (.one (.rw 3 0))), (39, (.one (.si .i64))), (40, (.one (.si .i64))), (44, (.one (.rw 0 0))), (45, (.one (.si .i64))), (46, (.one (.si .i64)))], [(.row 0 (.list true (.int .i64))), (.row 0 (.pair (.int .i64) (.int .i64))), (.rcd 0 [(.si .i64), (.si .i64)]), (.row 0 (.pair (.int .i64) (.int .i64)))], [⟨(.exit 2), [(4, (.one (.rw 0 0))), (8, (.one (.rw 1 0))), (10, (.one (.pf 2 0 0))), (11, (.one .sb)), (38, (.one (.rw 3 0))), (39, (.one (.si .i64))), (40, (.one (.si .i64)))], [(.row 0 (.list true (.int .i64))), (.row 0 (.pair (.int .i64) (.int .i64))), (.rcd 0 [(.si .i64), (.si .i64)]), (.row 0 (.pair (.int .i64) (.int .i64)))]⟩], [], []⟩
noncomputable def s_SureDiagonals_L11_step : ((Unit × Unit × Unit × Bool × Unit × Int × Int × Unit × Int × Int) × (List (List (Int)) × List ((Int × Int)) × (Int × Int) × List ((Int × Int)))) → T (((Unit × Unit × Unit × Bool × Unit × Int × Int × Unit × Int × Int) × (List (List (Int)) × List ((Int × Int)) × (Int × Int) × List ((Int × Int)))) ⊕ ((Unit × Unit × Unit × Bool × Unit × Int × Int) × (List (List (Int)) × List ((Int × Int)) × (Int × Int) × List ((Int × Int))))) := fun (((), (), (), sure, (), t39, t40, (), t45, t46), (all, out, (d_0, d_1), t38)) =>
  (.test (decide (t46 < t45))
  (.test (decide ((0 ≤ t46) ∧ (t46 < ((List.length all) : Int))))
   (.sub (all[(0 + (Int.toNat t46))]?) fun z0 =>
    (.sub (s_TriangulationOf z0) fun z1 =>
    (.test (decide ((0 = 0) ∧ ((List.length all) = (List.length all))))
    (.test (decide ((0 = 0) ∧ ((List.length out) = (List.length out))))
     (.test (decide ((0 = 0) ∧ ((List.length t38) = (List.length t38))))
      (.test (decide ((0 = 0) ∧ ((List.length all) = (List.length all))))
       (.test (decide ((0 = 0) ∧ ((List.length z1.2) = (List.length z1.2))))
        (.sub (s_SureDiagonals_L16 (((), ((), ((), (sure, (false, ((), (t39, (t40, ((), (t45, (t46, ((), (((List.length z1.2) : Int), (0 : Int)))))))))))))), (all, (out, ((d_0, d_1), (t38, z1.2)))))) fun z2 =>
         (.test z2.1.2.2.2.1
         (.test (decide ((0 = 0) ∧ ((List.length z2.2.1) = (List.length z2.2.1))))
          (.test (decide ((0 = 0) ∧ ((List.length z2.2.2.1) = (List.length z2.2.2.1))))
           (.test (decide ((0 = 0) ∧ ((List.length z2.2.2.2.2) = (List.length z2.2.2.2.2))))
            (.test (decide ((0 = 0) ∧ ((List.length z2.2.1) = (List.length z2.2.1))))
             (.ret (Sum.inl (((), ((), ((), (z2.1.2.2.2.2.1, ((), (z2.1.2.2.2.2.2.2.1, (z2.1.2.2.2.2.2.2.2.1, ((), (z2.1.2.2.2.2.2.2.2.2.2.1, (w64 (z2.1.2.2.2.2.2.2.2.2.2.2 + 1))))))))))), (z2.2.1, (z2.2.2.1, ((z2.2.2.2.1.1, z2.2.2.2.1.2), z2.2.2.2.2))))))
             .fail)
            .fail)
           .fail)
          .fail)
         (.test (decide ((0 = 0) ∧ ((List.length z2.2.1) = (List.length z2.2.1))))
          (.test (decide ((0 = 0) ∧ ((List.length z2.2.2.1) = (List.length z2.2.2.1))))
           (.test (decide ((0 = 0) ∧ ((List.length z2.2.2.2.2) = (List.length z2.2.2.2.2))))
            (.test (decide ((0 = 0) ∧ ((List.length z2.2.1) = (List.length z2.2.1))))
             (.ret (Sum.inl (((), ((), ((), (false, ((), (z2.1.2.2.2.2.2.2.1, (z2.1.2.2.2.2.2.2.2.1, ((), (z2.1.2.2.2.2.2.2.2.2.2.1, (w64 (z2.1.2.2.2.2.2.2.2.2.2.2 + 1))))))))))), (z2.2.1, (z2.2.2.1, ((z2.2.2.2.1.1, z2.2.2.2.1.2), z2.2.2.2.2))))))
             .fail)
            .fail)
           .fail)
          .fail)))
        .fail)
       .fail)
      .fail)
     .fail)
    .fail)))
   .fail)
  (.test (decide ((0 = 0) ∧ ((List.length all) = (List.length all))))
   (.test (decide ((0 = 0) ∧ ((List.length out) = (List.length out))))
    (.test (decide ((0 = 0) ∧ ((List.length t38) = (List.length t38))))
     (.ret (Sum.inr (((), ((), ((), (sure, ((), (t39, t40)))))), (all, (out, ((d_0, d_1), t38))))))
     .fail)
    .fail)
   .fail))
noncomputable def s_SureDiagonals_L11 (v : ((Unit × Unit × Unit × Bool × Unit × Int × Int × Unit × Int × Int) × (List (List (Int)) × List ((Int × Int)) × (Int × Int) × List ((Int × Int))))) : Option ((Unit × Unit × Unit × Bool × Unit × Int × Int) × (List (List (Int)) × List ((Int × Int)) × (Int × Int) × List ((Int × Int)))) := loopO (fun v => (s_SureDiagonals_L11_step v).run) v

def s_SureDiagonals_L7_sh : LSh := ⟨(fun ex => match ex with | .norm => [(4, none), (8, none), (38, none), (39, none), (40, none)] | .exit i => if i = 0 then [(8, none)] else [] | .ret => [(2, none), (3, none)]), [(4, (.one (.rw 0 0))), (8, (.one (.rw 1 0))), (38, (.one (.rw 2 0))), (39, (.one (.si .i64))), (40, (.one (.si .i64)))], [(.row 0 (.list true (.int .i64))), (.row 0 (.pair (.int .i64) (.int .i64))), (.row 0 (.pair (.int .i64) (.int .i64)))], [⟨(.exit 0), [(8, (.one (.rw 0 0)))], [(.row 0 (.pair (.int .i64) (.int .i64)))]⟩], [], []⟩
noncomputable def s_SureDiagonals_L7_step : ((Unit × Unit × Unit × Int × Int) × (List (List (Int)) × List ((Int × Int)) × List ((Int × Int)))) → T (((Unit × Unit × Unit × Int × Int) × (List (List (Int)) × List ((Int × Int)) × List ((Int × Int)))) ⊕ (Unit × List ((Int × Int)))) := fun (((), (), (), t39, t40), (all, out, t38)) =>
  (.test (decide (t40 < t39))
  (.test (decide ((0 ≤ t40) ∧ (t40 < ((List.length t38) : Int))))
   (.sub (t38[(0 + (Int.toNat t40))]?) fun z0 =>
    (.test (decide ((0 = 0) ∧ ((List.length all) = (List.length all))))
    (.test (decide ((0 = 0) ∧ ((List.length out) = (List.length out))))
     (.test (decide ((0 = 0) ∧ ((List.length t38) = (List.length t38))))
      (.test (decide ((0 = 0) ∧ ((List.length all) = (List.length all))))
       (.sub (s_SureDiagonals_L11 (((), ((), ((), (true, ((), (t39, (t40, ((), (((List.length all) : Int), (0 : Int)))))))))), (all, (out, ((z0.1, z0.2), t38))))) fun z1 =>
        (.test z1.1.2.2.2.1
        (.test (decide (1 ≤ (List.length (List.set (List.replicate 1 ((0 : Int), (0 : Int))) 0 (z1.2.2.2.1.1, z1.2.2.2.1.2)))))
         (.test (decide ((0 + (List.length z1.2.2.1)) ≤ (List.length z1.2.2.1)))
          (.test (decide ((2 * (((List.length z1.2.2.1) + (List.length (win (List.set (List.replicate 1 ((0 : Int), (0 : Int))) 0 (z1.2.2.2.1.1, z1.2.2.2.1.2)) 0 1))) * 17)) ≤ 140737488355328))
           (.test (decide ((0 = 0) ∧ ((List.length z1.2.1) = (List.length z1.2.1))))
            (.test (decide ((0 = 0) ∧ (((List.length z1.2.2.1) + (List.length (win (List.set (List.replicate 1 ((0 : Int), (0 : Int))) 0 (z1.2.2.2.1.1, z1.2.2.2.1.2)) 0 1))) = (List.length ((win z1.2.2.1 0 (List.length z1.2.2.1)) ++ (win (List.set (List.replicate 1 ((0 : Int), (0 : Int))) 0 (z1.2.2.2.1.1, z1.2.2.2.1.2)) 0 1))))))
             (.test (decide ((0 = 0) ∧ ((List.length z1.2.2.2.2) = (List.length z1.2.2.2.2))))
              (.ret (Sum.inl (((), ((), ((), (z1.1.2.2.2.2.2.1, (w64 (z1.1.2.2.2.2.2.2 + 1)))))), (z1.2.1, (((win z1.2.2.1 0 (List.length z1.2.2.1)) ++ (win (List.set (List.replicate 1 ((0 : Int), (0 : Int))) 0 (z1.2.2.2.1.1, z1.2.2.2.1.2)) 0 1)), z1.2.2.2.2)))))
              .fail)
             .fail)
            .fail)
           .fail)
          .fail)
         .fail)
        (.test (decide ((0 = 0) ∧ ((List.length z1.2.1) = (List.length z1.2.1))))
         (.test (decide ((0 = 0) ∧ ((List.length z1.2.2.1) = (List.length z1.2.2.1))))
          (.test (decide ((0 = 0) ∧ ((List.length z1.2.2.2.2) = (List.length z1.2.2.2.2))))
           (.ret (Sum.inl (((), ((), ((), (z1.1.2.2.2.2.2.1, (w64 (z1.1.2.2.2.2.2.2 + 1)))))), (z1.2.1, (z1.2.2.1, z1.2.2.2.2)))))
           .fail)
          .fail)
         .fail)))
       .fail)
      .fail)
     .fail)
    .fail))
   .fail)
  (.test (decide ((0 = 0) ∧ ((List.length out) = (List.length out))))
   (.ret (Sum.inr ((), out)))
   .fail))
noncomputable def s_SureDiagonals_L7 (v : ((Unit × Unit × Unit × Int × Int) × (List (List (Int)) × List ((Int × Int)) × List ((Int × Int))))) : Option (Unit × List ((Int × Int))) := loopO (fun v => (s_SureDiagonals_L7_step v).run) v

def s_SureDiagonals_fo : List FO := [⟨[(.one (.rw 0 0)), (.one .sb)], [(.row 0 (.pair (.int .i64) (.int .i64)))]⟩]
noncomputable def s_SureDiagonals_t : List (Int) → T ((Unit × Bool) × List ((Int × Int))) := fun p_0 =>
  (.sub (s_pzAll p_0) fun z0 =>
  (.test (! z0.1.2)
  (.test true
   (.ret (((), false), ([] : List (Int × Int))))
   .fail)
  (.test (((List.length z0.2) : Int) == 0)
   (.test true
    (.ret (((), false), ([] : List (Int × Int))))
    .fail)
   (.test (decide (((0 : Int) ≤ (0 : Int)) ∧ (0 < ((List.length z0.2) : Int))))
    (.sub (z0.2[0]?) fun z1 =>
     (.sub (s_TriangulationOf z1) fun z2 =>
     (.test (decide ((0 = 0) ∧ ((List.length z0.2) = (List.length z0.2))))
     (.test (decide ((0 = 0) ∧ (0 = (List.length ([] : List (Int × Int))))))
      (.test (decide ((0 = 0) ∧ ((List.length z2.2) = (List.length z2.2))))
       (.sub (s_SureDiagonals_L7 (((), ((), ((), (((List.length z2.2) : Int), (0 : Int))))), (z0.2, (([] : List (Int × Int)), z2.2)))) fun z3 =>
        (.test (decide ((0 = 0) ∧ ((List.length z3.2) = (List.length z3.2))))
        (.ret (((), true), z3.2))
        .fail))
       .fail)
      .fail)
     .fail)))
    .fail))))
noncomputable def s_SureDiagonals (v : List (Int)) : Option ((Unit × Bool) × List ((Int × Int))) := (s_SureDiagonals_t v).run
noncomputable def s_SureDiagonals_E : TEnv := ((E0.add1 n_s_pzAll s_pzAll_sh s_pzAll_fo s_pzAll).add1 n_s_TriangulationOf s_TriangulationOf_sh s_TriangulationOf_fo s_TriangulationOf)
theorem s_SureDiagonals_Eok : (s_SureDiagonals_E).OK := ((E0ok.add1 s_pzAll_ok).add1 s_TriangulationOf_ok)
noncomputable def s_SureDiagonals_told : Nat → Option SealT := fun id => if id = 16 then some (LSh.told s_SureDiagonals_L16_sh 0 (s_SureDiagonals_L16_step)) else if id = 11 then some (LSh.told s_SureDiagonals_L11_sh 0 (s_SureDiagonals_L11_step)) else if id = 7 then some (LSh.told s_SureDiagonals_L7_sh 0 (s_SureDiagonals_L7_step)) else none
theorem s_SureDiagonals_L16_ok : ToldOK Tryz.prog 0 (loopAt (bodyOf fn_s_SureDiagonals) [0, 0, 0]) (LSh.told s_SureDiagonals_L16_sh 0 (s_SureDiagonals_L16_step)) :=
  loop_ok (E := s_SureDiagonals_E) (s_SureDiagonals_Eok) (told := s_SureDiagonals_told) (l := s_SureDiagonals_L16_sh) (step := s_SureDiagonals_L16_step) (loopsOK_of (ls := []) (by kernel_rfl) trivial) (by kernel_rfl) (fun v => by kernel_rfl)
theorem s_SureDiagonals_L11_ok : ToldOK Tryz.prog 0 (loopAt (bodyOf fn_s_SureDiagonals) [0, 0]) (LSh.told s_SureDiagonals_L11_sh 0 (s_SureDiagonals_L11_step)) :=
  loop_ok (E := s_SureDiagonals_E) (s_SureDiagonals_Eok) (told := s_SureDiagonals_told) (l := s_SureDiagonals_L11_sh) (step := s_SureDiagonals_L11_step) (loopsOK_of (ls := [loopAt (bodyOf fn_s_SureDiagonals) [0, 0, 0]]) (by kernel_rfl) ⟨.inr ⟨_, by kernel_rfl, s_SureDiagonals_L16_ok⟩, trivial⟩) (by kernel_rfl) (fun v => by kernel_rfl)
theorem s_SureDiagonals_L7_ok : ToldOK Tryz.prog 0 (loopAt (bodyOf fn_s_SureDiagonals) [0]) (LSh.told s_SureDiagonals_L7_sh 0 (s_SureDiagonals_L7_step)) :=
  loop_ok (E := s_SureDiagonals_E) (s_SureDiagonals_Eok) (told := s_SureDiagonals_told) (l := s_SureDiagonals_L7_sh) (step := s_SureDiagonals_L7_step) (loopsOK_of (ls := [loopAt (bodyOf fn_s_SureDiagonals) [0, 0]]) (by kernel_rfl) ⟨.inr ⟨_, by kernel_rfl, s_SureDiagonals_L11_ok⟩, trivial⟩) (by kernel_rfl) (fun v => by kernel_rfl)
theorem s_SureDiagonals_ok : FOK Tryz.prog n_s_SureDiagonals s_SureDiagonals_sh s_SureDiagonals_fo s_SureDiagonals :=
  fn_ok (E := s_SureDiagonals_E) (s_SureDiagonals_Eok) (told := s_SureDiagonals_told) (fl := []) (c := bodyOf fn_s_SureDiagonals) (s := s_SureDiagonals_sh) (l := s_SureDiagonals_fo) (tree := s_SureDiagonals_t) fnat_s_SureDiagonals (by kernel_rfl) (by kernel_rfl) (by kernel_rfl) (loopsOK_of (ls := [loopAt (bodyOf fn_s_SureDiagonals) [0]]) (by kernel_rfl) ⟨.inr ⟨_, by kernel_rfl, s_SureDiagonals_L7_ok⟩, trivial⟩) (fun v => by kernel_rfl)

theorem triS_dOf (q : List Int) (hl : q.length < 4611686018427387904) : ∃ b, s_TriangulationOf q = some (((), b), dOf q) := by
  obtain ⟨r, _, h, _⟩ := s_poOf_eq q hl
  rw [s_TriangulationOf, s_TriangulationOf_t, T.run_sub, h, Option.bind_some, T.run_test]
  unfold dOf
  cases trOf q with
  | none => exact ⟨false, by simp [T.run]⟩
  | some ds => exact ⟨true, by simp [T.run]⟩
theorem s_SureDiagonals_has (d : Dg) (ds : List Dg) (sure : Bool) (all : List (List Int)) (out t38 : List Dg) (t39 t40 t45 t46 : Int) (hl : ds.length < 1000000) :
    s_SureDiagonals_L16 (((), ((), ((), (sure, (false, ((), (t39, (t40, ((), (t45, (t46, ((), ((ds.length : Int), (0 : Int)))))))))))))), (all, (out, (d, (t38, ds))))) = some (((), ((), ((), (sure, (hasD ds d, ((), (t39, (t40, ((), (t45, t46)))))))))), (all, (out, (d, t38)))) := by
  obtain ⟨d0, d1⟩ := d
  have h := loop_fold (step := fun v => (s_SureDiagonals_L16_step v).run) (xs := ds) (fun k (_ : Bool) => True) (fun k b => (((), ((), ((), (sure, (b, ((), (t39, (t40, ((), (t45, (t46, ((), ((ds.length : Int), (k : Int)))))))))))))), (all, (out, ((d0, d1), (t38, ds)))))) (fun b e => b || eqD e (d0, d1)) (fun b => (((), ((), ((), (sure, (b, ((), (t39, (t40, ((), (t45, t46)))))))))), (all, (out, ((d0, d1), t38)))))
    (fun k b x hP hx => by
      have hlt := getElem?_lt hx
      refine ⟨?_, trivial⟩
      have c0 : (k : Int) < (ds.length : Int) := by omega
      have c1 : (0 : Int) ≤ (k : Int) ∧ (k : Int) < (ds.length : Int) := by omega
      have w1 : w64 ((k : Int) + 1) = ((k + 1 : Nat) : Int) := by rw [w64_id (by omega) (by omega)]; omega
      obtain ⟨_, hxe⟩ := List.getElem?_eq_some_iff.1 hx
      cases b <;> simp [s_SureDiagonals_L16_step, T.run, hlt, w1, eqD, hxe, ← Int.natCast_add])
    (fun b hs => by simp [s_SureDiagonals_L16_step, T.run])
    false trivial
  simp only [Int.natCast_zero] at h
  simp only [s_SureDiagonals_L16]
  rw [h.1]
  have e : ∀ (l : List Dg) (b : Bool), l.foldl (fun b e => b || eqD e (d0, d1)) b = (b || l.any (eqD (d0, d1))) := by
    intro l
    induction l with
    | nil => intro b; simp
    | cons x l ih => intro b; rw [List.foldl_cons, ih, List.any_cons, eqD_comm x, Bool.or_assoc]
  rw [e, Bool.false_or]
  rfl
theorem s_SureDiagonals_sure (d : Dg) (all : List (List Int)) (out t38 : List Dg) (t39 t40 : Int) (hl : all.length < 1000000) (hq : ∀ r ∈ all, r.length < 4611686018427387904) :
    s_SureDiagonals_L11 (((), ((), ((), (true, ((), (t39, (t40, ((), ((all.length : Int), (0 : Int)))))))))), (all, (out, (d, t38)))) = some (((), ((), ((), ((all.all fun r => hasD (dOf r) d), ((), (t39, t40)))))), (all, (out, (d, t38)))) := by
  obtain ⟨d0, d1⟩ := d
  have h := loop_fold (step := fun v => (s_SureDiagonals_L11_step v).run) (xs := all) (fun k (_ : Bool) => True) (fun k b => (((), ((), ((), (b, ((), (t39, (t40, ((), ((all.length : Int), (k : Int)))))))))), (all, (out, ((d0, d1), t38))))) (fun b r => b && hasD (dOf r) (d0, d1)) (fun b => (((), ((), ((), (b, ((), (t39, t40)))))), (all, (out, ((d0, d1), t38)))))
    (fun k b x hP hx => by
      have hlt := getElem?_lt hx
      refine ⟨?_, trivial⟩
      have c0 : (k : Int) < (all.length : Int) := by omega
      have c1 : (0 : Int) ≤ (k : Int) ∧ (k : Int) < (all.length : Int) := by omega
      have w1 : w64 ((k : Int) + 1) = ((k + 1 : Nat) : Int) := by rw [w64_id (by omega) (by omega)]; omega
      obtain ⟨ok, hb⟩ := triS_dOf x (hq x (List.mem_of_getElem? hx))
      have hd := dOf_len x
      have h16 := s_SureDiagonals_has (d0, d1) (dOf x) b all out t38 t39 t40 (all.length : Int) (k : Int) (by omega)
      simp only [s_SureDiagonals_L11_step, T.run_test, T.run_sub, T.run_ret, T.run_fail]
      rw [if_pos (decide_eq_true c0), if_pos (decide_eq_true c1), Nat.zero_add, Int.toNat_natCast, hx, Option.bind_some, hb, Option.bind_some]
      simp only [and_self, decide_true, if_true, h16, Option.bind_some, w1]
      cases b <;> cases hasD (dOf x) (d0, d1) <;> simp)
    (fun b hs => by simp [s_SureDiagonals_L11_step, T.run])
    true trivial
  simp only [Int.natCast_zero] at h
  simp only [s_SureDiagonals_L11]
  rw [h.1]
  have e : ∀ (l : List (List Int)) (b : Bool), l.foldl (fun b r => b && hasD (dOf r) (d0, d1)) b = (b && l.all fun r => hasD (dOf r) (d0, d1)) := by
    intro l
    induction l with
    | nil => intro b; simp
    | cons x l ih => intro b; rw [List.foldl_cons, ih, List.all_cons, Bool.and_assoc]
  rw [e, Bool.true_and]
theorem s_SureDiagonals_loop (first : List Dg) (all : List (List Int)) (h9 : first.length ≤ 9) (hl : all.length < 1000000) (hq : ∀ r ∈ all, r.length < 4611686018427387904) :
    s_SureDiagonals_L7 (((), ((), ((), ((first.length : Int), (0 : Int))))), (all, ([], first))) = some ((), first.filter fun d => all.all fun r => hasD (dOf r) d) := by
  have h := loop_fold (step := fun v => (s_SureDiagonals_L7_step v).run) (xs := first) (fun k (s : List Dg) => s.length ≤ k) (fun k s => (((), ((), ((), ((first.length : Int), (k : Int))))), (all, (s, first)))) (fun s d => if (all.all fun r => hasD (dOf r) d) = true then s ++ [d] else s) (fun s => ((), s))
    (fun k s x hP hx => by
      have hlt := getElem?_lt hx
      refine ⟨?_, by
        split
        · rw [List.length_append, List.length_singleton]; omega
        · omega⟩
      have c0 : (k : Int) < (first.length : Int) := by omega
      have c1 : (0 : Int) ≤ (k : Int) ∧ (k : Int) < (first.length : Int) := by omega
      have w1 : w64 ((k : Int) + 1) = ((k + 1 : Nat) : Int) := by rw [w64_id (by omega) (by omega)]; omega
      have h11 := s_SureDiagonals_sure x all s first (first.length : Int) (k : Int) hl hq
      obtain ⟨x0, x1⟩ := x
      simp only [s_SureDiagonals_L7_step, T.run_test, T.run_sub, T.run_ret, T.run_fail]
      rw [if_pos (decide_eq_true c0), if_pos (decide_eq_true c1), Nat.zero_add, Int.toNat_natCast, hx, Option.bind_some]
      simp only [and_self, decide_true, if_true, h11, Option.bind_some, w1]
      have hset : (List.replicate 1 ((0 : Int), (0 : Int))).set 0 (x0, x1) = [(x0, x1)] := rfl
      have hwin : win [(x0, x1)] 0 1 = [(x0, x1)] := rfl
      have c2 : 2 * ((s.length + 1) * 17) ≤ 140737488355328 := by omega
      cases (all.all fun r => hasD (dOf r) (x0, x1)) with
      | false => simp
      | true => simp [hset, hwin, win_all, c2])
    (fun b hs => by simp [s_SureDiagonals_L7_step, T.run])
    [] (Nat.le_refl _)
  simp only [Int.natCast_zero] at h
  simp only [s_SureDiagonals_L7]
  rw [h.1]
  have e : ∀ (l s : List Dg), l.foldl (fun s d => if (all.all fun r => hasD (dOf r) d) = true then s ++ [d] else s) s = s ++ l.filter fun d => all.all fun r => hasD (dOf r) d := by
    intro l
    induction l with
    | nil => intro s; simp
    | cons x l ih =>
      intro s
      rw [List.foldl_cons, ih, List.filter_cons]
      split <;> simp
  rw [e, List.nil_append]
theorem sure_fold (t : List (List Int)) : ∀ (l : List Dg), t.foldl (fun out r => out.filter (hasD (dOf r))) l = l.filter fun d => t.all fun r => hasD (dOf r) d := by
  induction t with
  | nil => intro l; exact (List.filter_eq_self.2 fun _ _ => rfl).symm
  | cons r t ih =>
    intro l
    rw [List.foldl_cons, ih, List.filter_filter]
    congr 1
    funext d
    rw [List.all_cons, Bool.and_comm]
theorem s_SureDiagonals_eq (p : List Int) (hl : p.length < 4611686018427387904) : s_SureDiagonals p = some (((), (sdR p).1), (sdR p).2) := by
  rw [s_SureDiagonals, s_SureDiagonals_t, T.run_sub, s_pzAll_eq p hl, Option.bind_some, T.run_test]
  unfold sdR
  have hm : ∀ q ∈ (solR p).2, q.length = p.length ∧ p.length ≤ 9 := fun q h => solR_mem h
  have h3 := solR_len p
  generalize solR p = r at *
  obtain ⟨ok, l⟩ := r
  simp only at hm h3
  cases ok with
  | false => simp [T.run]
  | true =>
    cases l with
    | nil => simp [T.run]
    | cons q t =>
      have hq := hm q (by simp)
      obtain ⟨b, hb⟩ := triS_dOf q (by omega)
      have hd := dOf_len q
      have h7 := s_SureDiagonals_loop (dOf q) (q :: t) hd (by omega) (fun r hr => by have := hm r hr; omega)
      have c1 : (0 : Int) ≤ (0 : Int) ∧ (0 : Int) < ((q :: t).length : Int) := by rw [List.length_cons]; omega
      have c0 : (((q :: t).length : Int) == 0) = false := by rw [beq_eq_false_iff_ne, List.length_cons]; omega
      simp only [T.run_test, T.run_sub, T.run_ret, T.run_fail]
      rw [if_neg (by simp), if_neg (by rw [c0]; simp), if_pos (decide_eq_true (by exact c1)), List.getElem?_cons_zero, Option.bind_some, hb, Option.bind_some, if_pos (by simp), if_pos (by simp), if_pos (by simp), h7, Option.bind_some, if_pos (by simp)]
      have e : ((dOf q).filter fun d => (q :: t).all fun r => hasD (dOf r) d) = t.foldl (fun out r => out.filter (hasD (dOf r))) (dOf q) := by
        rw [sure_fold]
        apply List.filter_congr
        intro d hd
        rw [List.all_cons]
        have : hasD (dOf q) d = true := List.any_eq_true.2 ⟨d, hd, (eqD_iff d d).2 rfl⟩
        rw [this, Bool.true_and]
      rw [e]


def i_within_sh : FSh := ⟨[(.one (.si .i64)), (.one (.si .i64)), (.one (.si .i64))], []⟩

def i_within_fo : List FO := [⟨[(.one .sb)], []⟩]
noncomputable def i_within_t : (Int × Int × Int) → T Bool := fun (n, low, high) =>
  (.test (decide (n ≥ low))
  (.ret (decide (n ≤ high)))
  (.ret false))
noncomputable def i_within (v : (Int × Int × Int)) : Option Bool := (i_within_t v).run
noncomputable def i_within_E : TEnv := E0
theorem i_within_Eok : (i_within_E).OK := E0ok
noncomputable def i_within_told : Nat → Option SealT := fun id => none
theorem i_within_ok : FOK Tryz.prog n_i_within i_within_sh i_within_fo i_within :=
  fn_ok (E := i_within_E) (i_within_Eok) (told := i_within_told) (fl := []) (c := bodyOf fn_i_within) (s := i_within_sh) (l := i_within_fo) (tree := i_within_t) fnat_i_within (by kernel_rfl) (by kernel_rfl) (by kernel_rfl) (loopsOK_of (ls := []) (by kernel_rfl) trivial) (fun v => by kernel_rfl)

theorem i_within_eq (n low high : Int) : i_within (n, low, high) = some (inB low high n) := by
  simp only [i_within, i_within_t, T.run, ge_iff_le, decide_eq_true_eq, inB]
  by_cases h : low ≤ n <;> simp [h]


def i_IsPuzzle_1_sh : FSh := ⟨[(.one (.si .i64)), (.one (.pf 0 0 0))], [(.rcd 0 [(.si .i64)])]⟩

def i_IsPuzzle_1_fo : List FO := [⟨[(.one .sb)], [(.rcd 0 [(.si .i64)])]⟩]
noncomputable def i_IsPuzzle_1_t : ((Int × Unit) × Int) → T (Bool × Int) := fun ((k, ()), t1_0) =>
  (.sub (i_within (k, ((0 : Int), (w64 (t1_0 - 2))))) fun z0 =>
  (.ret ((! z0), t1_0)))
noncomputable def i_IsPuzzle_1 (v : ((Int × Unit) × Int)) : Option (Bool × Int) := (i_IsPuzzle_1_t v).run
noncomputable def i_IsPuzzle_1_E : TEnv := (E0.add1 n_i_within i_within_sh i_within_fo i_within)
theorem i_IsPuzzle_1_Eok : (i_IsPuzzle_1_E).OK := (E0ok.add1 i_within_ok)
noncomputable def i_IsPuzzle_1_told : Nat → Option SealT := fun id => none
theorem i_IsPuzzle_1_ok : FOK Tryz.prog n_i_IsPuzzle_1 i_IsPuzzle_1_sh i_IsPuzzle_1_fo i_IsPuzzle_1 :=
  fn_ok (E := i_IsPuzzle_1_E) (i_IsPuzzle_1_Eok) (told := i_IsPuzzle_1_told) (fl := []) (c := bodyOf fn_i_IsPuzzle_1) (s := i_IsPuzzle_1_sh) (l := i_IsPuzzle_1_fo) (tree := i_IsPuzzle_1_t) fnat_i_IsPuzzle_1 (by kernel_rfl) (by kernel_rfl) (by kernel_rfl) (loopsOK_of (ls := []) (by kernel_rfl) trivial) (fun v => by kernel_rfl)

theorem i_IsPuzzle_1_eq (k c : Int) (h : 0 ≤ c) (h2 : c < 4611686018427387904) : i_IsPuzzle_1 ((k, ()), c) = some (!inB 0 (c - 2) k, c) := by
  simp only [i_IsPuzzle_1, i_IsPuzzle_1_t, T.run, i_within_eq, Option.bind_some]
  rw [w64_id (by omega) (by omega)]


def slices_IndexFunc_int__i_IsPuzzle_1_sh : FSh := ⟨[(.one (.sl (.int .i64) false false)), (.clo n_i_IsPuzzle_1 [(.one (.pf 0 0 0))])], [(.rcd 0 [(.si .i64)])]⟩

def slices_IndexFunc_int__i_IsPuzzle_1_L2_sh : LSh := ⟨(fun ex => match ex with | .norm => [(0, none), (1, none), (7, none), (8, none)] | .exit i => if i = 0 then [] else [] | .ret => [(4, none)]), [(0, (.one (.sl (.int .i64) false false))), (1, (.clo n_i_IsPuzzle_1 [(.one (.pf 0 0 0))])), (7, (.one (.si .i64))), (8, (.one (.si .i64)))], [(.rcd 0 [(.si .i64)])], [⟨.ret, [(4, (.one (.si .i64)))], [(.rcd 0 [(.si .i64)])]⟩, ⟨(.exit 0), [], [(.rcd 0 [(.si .i64)])]⟩], [], []⟩
noncomputable def slices_IndexFunc_int__i_IsPuzzle_1_L2_step : ((List (Int) × Unit × Int × Int) × Int) → T (((List (Int) × Unit × Int × Int) × Int) ⊕ ((Int × Int) ⊕ (Unit × Int))) := fun ((s, (), t7, t8), r0_0) =>
  (.test (decide (t8 < t7))
  (.test (decide ((0 ≤ t8) ∧ (t8 < ((List.length s) : Int))))
   (.sub (s[(Int.toNat t8)]?) fun z0 =>
    (.sub (i_IsPuzzle_1 ((z0, ()), r0_0)) fun z1 =>
    (.test z1.1
    (.ret (Sum.inr (Sum.inl (t8, z1.2))))
    (.ret (Sum.inl ((s, ((), (t7, (w64 (t8 + 1))))), z1.2))))))
   .fail)
  (.ret (Sum.inr (Sum.inr ((), r0_0)))))
noncomputable def slices_IndexFunc_int__i_IsPuzzle_1_L2 (v : ((List (Int) × Unit × Int × Int) × Int)) : Option ((Int × Int) ⊕ (Unit × Int)) := loopO (fun v => (slices_IndexFunc_int__i_IsPuzzle_1_L2_step v).run) v

def slices_IndexFunc_int__i_IsPuzzle_1_fo : List FO := [⟨[(.one (.si .i64))], [(.rcd 0 [(.si .i64)])]⟩]
noncomputable def slices_IndexFunc_int__i_IsPuzzle_1_t : ((List (Int) × Unit) × Int) → T (Int × Int) := fun ((s, ()), r0_0) =>
  (.sub (slices_IndexFunc_int__i_IsPuzzle_1_L2 ((s, ((), (((List.length s) : Int), (0 : Int)))), r0_0)) fun z0 =>
  (.test (Sum.isLeft z0)
  (.sub (Sum.getLeft? z0) fun z1 =>
   (.ret (z1.1, z1.2)))
  (.sub (Sum.getRight? z0) fun z2 =>
   (.ret ((-1), z2.2)))))
noncomputable def slices_IndexFunc_int__i_IsPuzzle_1 (v : ((List (Int) × Unit) × Int)) : Option (Int × Int) := (slices_IndexFunc_int__i_IsPuzzle_1_t v).run
noncomputable def slices_IndexFunc_int__i_IsPuzzle_1_E : TEnv := (E0.add1 n_i_IsPuzzle_1 i_IsPuzzle_1_sh i_IsPuzzle_1_fo i_IsPuzzle_1)
theorem slices_IndexFunc_int__i_IsPuzzle_1_Eok : (slices_IndexFunc_int__i_IsPuzzle_1_E).OK := (E0ok.add1 i_IsPuzzle_1_ok)
noncomputable def slices_IndexFunc_int__i_IsPuzzle_1_told : Nat → Option SealT := fun id => if id = 2 then some (LSh.told slices_IndexFunc_int__i_IsPuzzle_1_L2_sh 1 (slices_IndexFunc_int__i_IsPuzzle_1_L2_step)) else none
theorem slices_IndexFunc_int__i_IsPuzzle_1_L2_ok : ToldOK Tryz.prog 1 (loopAt (bodyOf fn_slices_IndexFunc_int) [0]) (LSh.told slices_IndexFunc_int__i_IsPuzzle_1_L2_sh 1 (slices_IndexFunc_int__i_IsPuzzle_1_L2_step)) :=
  loop_ok (E := slices_IndexFunc_int__i_IsPuzzle_1_E) (slices_IndexFunc_int__i_IsPuzzle_1_Eok) (told := slices_IndexFunc_int__i_IsPuzzle_1_told) (l := slices_IndexFunc_int__i_IsPuzzle_1_L2_sh) (step := slices_IndexFunc_int__i_IsPuzzle_1_L2_step) (loopsOK_of (ls := []) (by kernel_rfl) trivial) (by kernel_rfl) (fun v => by kernel_rfl)
theorem slices_IndexFunc_int__i_IsPuzzle_1_ok : FOK Tryz.prog n_slices_IndexFunc_int slices_IndexFunc_int__i_IsPuzzle_1_sh slices_IndexFunc_int__i_IsPuzzle_1_fo slices_IndexFunc_int__i_IsPuzzle_1 :=
  fn_ok (E := slices_IndexFunc_int__i_IsPuzzle_1_E) (slices_IndexFunc_int__i_IsPuzzle_1_Eok) (told := slices_IndexFunc_int__i_IsPuzzle_1_told) (fl := []) (c := bodyOf fn_slices_IndexFunc_int) (s := slices_IndexFunc_int__i_IsPuzzle_1_sh) (l := slices_IndexFunc_int__i_IsPuzzle_1_fo) (tree := slices_IndexFunc_int__i_IsPuzzle_1_t) fnat_slices_IndexFunc_int (by kernel_rfl) (by kernel_rfl) (by kernel_rfl) (loopsOK_of (ls := [loopAt (bodyOf fn_slices_IndexFunc_int) [0]]) (by kernel_rfl) ⟨.inr ⟨_, by kernel_rfl, slices_IndexFunc_int__i_IsPuzzle_1_L2_ok⟩, trivial⟩) (fun v => by kernel_rfl)

theorem slices_IndexFunc_int__i_IsPuzzle_1_eq (l : List Int) (c : Int) (hl : l.length < 4611686018427387904) (h : 0 ≤ c) (h2 : c < 4611686018427387904) : slices_IndexFunc_int__i_IsPuzzle_1 ((l, ()), c) = some (idxI (fun k => !inB 0 (c - 2) k) l, c) := by
  have h := loop_find (step := fun v => (slices_IndexFunc_int__i_IsPuzzle_1_L2_step v).run) (xs := l) (fun k => !inB 0 (c - 2) k) (fun k => ((l, (), (l.length : Int), (k : Int)), c)) (fun k => .inl ((k : Int), c)) (.inr ((), c))
    (fun k x hx => by
      have hk := getElem?_lt hx
      simp only [slices_IndexFunc_int__i_IsPuzzle_1_L2_step, T.run, i_IsPuzzle_1_eq _ _ h h2, Option.bind_some, Int.toNat_natCast, hx]
      rw [w64_id (by omega) (by omega)]
      cases inB 0 (c - 2) x <;> simp [hk])
    (by simp [slices_IndexFunc_int__i_IsPuzzle_1_L2_step, T.run])
  simp only [slices_IndexFunc_int__i_IsPuzzle_1, slices_IndexFunc_int__i_IsPuzzle_1_t, T.run, slices_IndexFunc_int__i_IsPuzzle_1_L2]
  simp only [Int.natCast_zero] at h
  rw [h, idxI]
  cases l.findIdx? (fun k => !inB 0 (c - 2) k) <;> simp


def slices_ContainsFunc_int__i_IsPuzzle_1_sh : FSh := ⟨[(.one (.sl (.int .i64) false false)), (.clo n_i_IsPuzzle_1 [(.one (.pf 0 0 0))])], [(.rcd 0 [(.si .i64)])]⟩

def slices_ContainsFunc_int__i_IsPuzzle_1_fo : List FO := [⟨[(.one .sb)], [(.rcd 0 [(.si .i64)])]⟩]
noncomputable def slices_ContainsFunc_int__i_IsPuzzle_1_t : ((List (Int) × Unit) × Int) → T (Bool × Int) := fun ((s, ()), r0_0) =>
  (.sub (slices_IndexFunc_int__i_IsPuzzle_1 ((s, ()), r0_0)) fun z0 =>
  (.ret ((decide (z0.1 ≥ 0)), z0.2)))
noncomputable def slices_ContainsFunc_int__i_IsPuzzle_1 (v : ((List (Int) × Unit) × Int)) : Option (Bool × Int) := (slices_ContainsFunc_int__i_IsPuzzle_1_t v).run
noncomputable def slices_ContainsFunc_int__i_IsPuzzle_1_E : TEnv := (E0.add1 n_slices_IndexFunc_int slices_IndexFunc_int__i_IsPuzzle_1_sh slices_IndexFunc_int__i_IsPuzzle_1_fo slices_IndexFunc_int__i_IsPuzzle_1)
theorem slices_ContainsFunc_int__i_IsPuzzle_1_Eok : (slices_ContainsFunc_int__i_IsPuzzle_1_E).OK := (E0ok.add1 slices_IndexFunc_int__i_IsPuzzle_1_ok)
noncomputable def slices_ContainsFunc_int__i_IsPuzzle_1_told : Nat → Option SealT := fun id => none
theorem slices_ContainsFunc_int__i_IsPuzzle_1_ok : FOK Tryz.prog n_slices_ContainsFunc_int slices_ContainsFunc_int__i_IsPuzzle_1_sh slices_ContainsFunc_int__i_IsPuzzle_1_fo slices_ContainsFunc_int__i_IsPuzzle_1 :=
  fn_ok (E := slices_ContainsFunc_int__i_IsPuzzle_1_E) (slices_ContainsFunc_int__i_IsPuzzle_1_Eok) (told := slices_ContainsFunc_int__i_IsPuzzle_1_told) (fl := []) (c := bodyOf fn_slices_ContainsFunc_int) (s := slices_ContainsFunc_int__i_IsPuzzle_1_sh) (l := slices_ContainsFunc_int__i_IsPuzzle_1_fo) (tree := slices_ContainsFunc_int__i_IsPuzzle_1_t) fnat_slices_ContainsFunc_int (by kernel_rfl) (by kernel_rfl) (by kernel_rfl) (loopsOK_of (ls := []) (by kernel_rfl) trivial) (fun v => by kernel_rfl)

theorem slices_ContainsFunc_int__i_IsPuzzle_1_eq (l : List Int) (c : Int) (hl : l.length < 4611686018427387904) (h : 0 ≤ c) (h2 : c < 4611686018427387904) : slices_ContainsFunc_int__i_IsPuzzle_1 ((l, ()), c) = some (l.any (fun k => !inB 0 (c - 2) k), c) := by
  simp only [slices_ContainsFunc_int__i_IsPuzzle_1, slices_ContainsFunc_int__i_IsPuzzle_1_t, T.run, slices_IndexFunc_int__i_IsPuzzle_1_eq _ _ hl h h2, Option.bind_some, idxI_ge]


def i_IsPuzzle_sh : FSh := ⟨[(.ag [(.sl (.int .i64) false false)])], []⟩

def i_IsPuzzle_fo : List FO := [⟨[(.one .sb)], []⟩]
noncomputable def i_IsPuzzle_t : List (Int) → T Bool := fun p_0 =>
  (.sub (i_within (((List.length p_0) : Int), ((3 : Int), (9 : Int)))) fun z0 =>
  (.test z0
  (.sub (slices_ContainsFunc_int__i_IsPuzzle_1 ((p_0, ()), ((List.length p_0) : Int))) fun z1 =>
   (.ret (! z1.1)))
  (.ret false)))
noncomputable def i_IsPuzzle (v : List (Int)) : Option Bool := (i_IsPuzzle_t v).run
noncomputable def i_IsPuzzle_E : TEnv := ((E0.add1 n_i_within i_within_sh i_within_fo i_within).add1 n_slices_ContainsFunc_int slices_ContainsFunc_int__i_IsPuzzle_1_sh slices_ContainsFunc_int__i_IsPuzzle_1_fo slices_ContainsFunc_int__i_IsPuzzle_1)
theorem i_IsPuzzle_Eok : (i_IsPuzzle_E).OK := ((E0ok.add1 i_within_ok).add1 slices_ContainsFunc_int__i_IsPuzzle_1_ok)
noncomputable def i_IsPuzzle_told : Nat → Option SealT := fun id => none
theorem i_IsPuzzle_ok : FOK Tryz.prog n_i_IsPuzzle i_IsPuzzle_sh i_IsPuzzle_fo i_IsPuzzle :=
  fn_ok (E := i_IsPuzzle_E) (i_IsPuzzle_Eok) (told := i_IsPuzzle_told) (fl := []) (c := bodyOf fn_i_IsPuzzle) (s := i_IsPuzzle_sh) (l := i_IsPuzzle_fo) (tree := i_IsPuzzle_t) fnat_i_IsPuzzle (by kernel_rfl) (by kernel_rfl) (by kernel_rfl) (loopsOK_of (ls := []) (by kernel_rfl) trivial) (fun v => by kernel_rfl)

theorem i_IsPuzzle_eq (l : List Int) (hl : l.length < 4611686018427387904) : i_IsPuzzle l = some (isPz l) := by
  simp only [i_IsPuzzle, i_IsPuzzle_t, T.run, i_within_eq, Option.bind_some, slices_ContainsFunc_int__i_IsPuzzle_1_eq l l.length hl (by omega) (by omega), all_any, isPz]
  cases inB 3 9 l.length <;> simp


def i_isDiagonal_sh : FSh := ⟨[(.one (.si .i64)), (.ag [(.si .i64), (.si .i64)])], []⟩

def i_isDiagonal_fo : List FO := [⟨[(.one .sb)], []⟩]
noncomputable def i_isDiagonal_t : (Int × (Int × Int)) → T Bool := fun (n, (d_0, d_1)) =>
  (.sub (i_within (d_0, ((0 : Int), (w64 (n - 1))))) fun z0 =>
  (.test z0
  (.sub (i_within (d_1, ((0 : Int), (w64 (n - 1))))) fun z1 =>
   (.test z1
   (.test (decide ((w64 (d_1 - d_0)) > 1))
    (.test (d_0 == 0)
     (.ret (! (d_1 == (w64 (n - 1)))))
     (.ret true))
    (.ret false))
   (.ret false)))
  (.ret false)))
noncomputable def i_isDiagonal (v : (Int × (Int × Int))) : Option Bool := (i_isDiagonal_t v).run
noncomputable def i_isDiagonal_E : TEnv := (E0.add1 n_i_within i_within_sh i_within_fo i_within)
theorem i_isDiagonal_Eok : (i_isDiagonal_E).OK := (E0ok.add1 i_within_ok)
noncomputable def i_isDiagonal_told : Nat → Option SealT := fun id => none
theorem i_isDiagonal_ok : FOK Tryz.prog n_i_isDiagonal i_isDiagonal_sh i_isDiagonal_fo i_isDiagonal :=
  fn_ok (E := i_isDiagonal_E) (i_isDiagonal_Eok) (told := i_isDiagonal_told) (fl := []) (c := bodyOf fn_i_isDiagonal) (s := i_isDiagonal_sh) (l := i_isDiagonal_fo) (tree := i_isDiagonal_t) fnat_i_isDiagonal (by kernel_rfl) (by kernel_rfl) (by kernel_rfl) (loopsOK_of (ls := []) (by kernel_rfl) trivial) (fun v => by kernel_rfl)

theorem i_isDiagonal_eq (n : Int) (d : Dg) (h1 : 0 ≤ n) (h2 : n ≤ 1000000) : i_isDiagonal (n, d) = some (inDg n d) := by
  obtain ⟨a, b⟩ := d
  have w1 : w64 (n - 1) = n - 1 := w64_id (by omega) (by omega)
  simp only [i_isDiagonal, i_isDiagonal_t, T.run, i_within_eq, Option.bind_some, w1, inDg]
  cases ha : inB 0 (n - 1) a with
  | false => simp
  | true =>
    cases hb : inB 0 (n - 1) b with
    | false => simp
    | true =>
      rw [inB_iff] at ha hb
      have w2 : w64 (b - a) = b - a := w64_id (by omega) (by omega)
      rw [w2]
      by_cases h4 : a = 0
      · subst h4
        rw [Int.sub_zero]
        by_cases h5 : b > 1 <;> simp [h5, beq_int]
      · by_cases h5 : b - a > 1 <;> simp [h5, h4]


def i_allDiagonals_sh : FSh := ⟨[(.one (.si .i64))], []⟩

def i_allDiagonals_L6_sh : LSh := ⟨(fun ex => match ex with | .norm => [(0, none), (3, none), (4, none), (5, none), (8, none), (9, none)] | .exit i => if i = 2 then [(0, none), (3, none), (8, none), (9, none)] else if i = 1 then [(0, none), (3, none), (8, none), (9, none)] else if i = 0 then [(3, none)] else [] | .ret => [(2, none)]), [(0, (.one (.si .i64))), (3, (.one (.rw 0 0))), (4, (.one (.si .i64))), (5, (.one (.si .i64))), (8, (.one (.si .i64))), (9, (.one (.si .i64)))], [(.row 0 (.pair (.int .i64) (.int .i64)))], [⟨(.exit 2), [(0, (.one (.si .i64))), (3, (.one (.rw 0 0))), (8, (.one (.si .i64))), (9, (.one (.si .i64)))], [(.row 0 (.pair (.int .i64) (.int .i64)))]⟩], [], []⟩
noncomputable def i_allDiagonals_L6_step : ((Int × Unit × Int × Int × Int × Int) × List ((Int × Int))) → T (((Int × Unit × Int × Int × Int × Int) × List ((Int × Int))) ⊕ ((Int × Unit × Int × Int) × List ((Int × Int)))) := fun ((n, (), low, high, t8, t9), out) =>
  (.test (decide (high < n))
  (.sub (i_isDiagonal (n, (low, high))) fun z0 =>
   (.test z0
   (.test (decide (1 ≤ (List.length (List.set (List.replicate 1 ((0 : Int), (0 : Int))) 0 (low, high)))))
    (.test (decide ((0 + (List.length out)) ≤ (List.length out)))
     (.test (decide ((2 * (((List.length out) + (List.length (win (List.set (List.replicate 1 ((0 : Int), (0 : Int))) 0 (low, high)) 0 1))) * 17)) ≤ 140737488355328))
      (.test (decide ((0 = 0) ∧ (((List.length out) + (List.length (win (List.set (List.replicate 1 ((0 : Int), (0 : Int))) 0 (low, high)) 0 1))) = (List.length ((win out 0 (List.length out)) ++ (win (List.set (List.replicate 1 ((0 : Int), (0 : Int))) 0 (low, high)) 0 1))))))
       (.ret (Sum.inl ((n, ((), (low, ((w64 (high + 1)), (t8, t9))))), ((win out 0 (List.length out)) ++ (win (List.set (List.replicate 1 ((0 : Int), (0 : Int))) 0 (low, high)) 0 1)))))
       .fail)
      .fail)
     .fail)
    .fail)
   (.test (decide ((0 = 0) ∧ ((List.length out) = (List.length out))))
    (.ret (Sum.inl ((n, ((), (low, ((w64 (high + 1)), (t8, t9))))), out)))
    .fail)))
  (.test (decide ((0 = 0) ∧ ((List.length out) = (List.length out))))
   (.ret (Sum.inr ((n, ((), (t8, t9))), out)))
   .fail))
noncomputable def i_allDiagonals_L6 (v : ((Int × Unit × Int × Int × Int × Int) × List ((Int × Int)))) : Option ((Int × Unit × Int × Int) × List ((Int × Int))) := loopO (fun v => (i_allDiagonals_L6_step v).run) v

def i_allDiagonals_L3_sh : LSh := ⟨(fun ex => match ex with | .norm => [(0, none), (3, none), (8, none), (9, none)] | .exit i => if i = 0 then [(3, none)] else [] | .ret => [(2, none)]), [(0, (.one (.si .i64))), (3, (.one (.rw 0 0))), (8, (.one (.si .i64))), (9, (.one (.si .i64)))], [(.row 0 (.pair (.int .i64) (.int .i64)))], [⟨(.exit 0), [(3, (.one (.rw 0 0)))], [(.row 0 (.pair (.int .i64) (.int .i64)))]⟩], [], []⟩
noncomputable def i_allDiagonals_L3_step : ((Int × Unit × Int × Int) × List ((Int × Int))) → T (((Int × Unit × Int × Int) × List ((Int × Int))) ⊕ (Unit × List ((Int × Int)))) := fun ((n, (), t8, t9), out) =>
  (.test (decide (t9 < t8))
  (.test (decide ((0 = 0) ∧ ((List.length out) = (List.length out))))
   (.sub (i_allDiagonals_L6 ((n, ((), (t9, ((w64 (t9 + 1)), (t8, t9))))), out)) fun z0 =>
    (.test (decide ((0 = 0) ∧ ((List.length z0.2) = (List.length z0.2))))
    (.ret (Sum.inl ((z0.1.1, ((), (z0.1.2.2.1, (w64 (z0.1.2.2.2 + 1))))), z0.2)))
    .fail))
   .fail)
  (.test (decide ((0 = 0) ∧ ((List.length out) = (List.length out))))
   (.ret (Sum.inr ((), out)))
   .fail))
noncomputable def i_allDiagonals_L3 (v : ((Int × Unit × Int × Int) × List ((Int × Int)))) : Option (Unit × List ((Int × Int))) := loopO (fun v => (i_allDiagonals_L3_step v).run) v

def i_allDiagonals_fo : List FO := [⟨[(.one (.rw 0 0))], [(.row 0 (.pair (.int .i64) (.int .i64)))]⟩]
noncomputable def i_allDiagonals_t : Int → T (Unit × List ((Int × Int))) := fun n =>
  (.test true
  (.sub (i_allDiagonals_L3 ((n, ((), (n, (0 : Int)))), (List.replicate 0 ((0 : Int), (0 : Int))))) fun z0 =>
   (.test (decide ((0 = 0) ∧ ((List.length z0.2) = (List.length z0.2))))
   (.ret ((), z0.2))
   .fail))
  .fail)
noncomputable def i_allDiagonals (v : Int) : Option (Unit × List ((Int × Int))) := (i_allDiagonals_t v).run
noncomputable def i_allDiagonals_E : TEnv := (E0.add1 n_i_isDiagonal i_isDiagonal_sh i_isDiagonal_fo i_isDiagonal)
theorem i_allDiagonals_Eok : (i_allDiagonals_E).OK := (E0ok.add1 i_isDiagonal_ok)
noncomputable def i_allDiagonals_told : Nat → Option SealT := fun id => if id = 6 then some (LSh.told i_allDiagonals_L6_sh 0 (i_allDiagonals_L6_step)) else if id = 3 then some (LSh.told i_allDiagonals_L3_sh 0 (i_allDiagonals_L3_step)) else none
theorem i_allDiagonals_L6_ok : ToldOK Tryz.prog 0 (loopAt (bodyOf fn_i_allDiagonals) [0, 0]) (LSh.told i_allDiagonals_L6_sh 0 (i_allDiagonals_L6_step)) :=
  loop_ok (E := i_allDiagonals_E) (i_allDiagonals_Eok) (told := i_allDiagonals_told) (l := i_allDiagonals_L6_sh) (step := i_allDiagonals_L6_step) (loopsOK_of (ls := []) (by kernel_rfl) trivial) (by kernel_rfl) (fun v => by kernel_rfl)
theorem i_allDiagonals_L3_ok : ToldOK Tryz.prog 0 (loopAt (bodyOf fn_i_allDiagonals) [0]) (LSh.told i_allDiagonals_L3_sh 0 (i_allDiagonals_L3_step)) :=
  loop_ok (E := i_allDiagonals_E) (i_allDiagonals_Eok) (told := i_allDiagonals_told) (l := i_allDiagonals_L3_sh) (step := i_allDiagonals_L3_step) (loopsOK_of (ls := [loopAt (bodyOf fn_i_allDiagonals) [0, 0]]) (by kernel_rfl) ⟨.inr ⟨_, by kernel_rfl, i_allDiagonals_L6_ok⟩, trivial⟩) (by kernel_rfl) (fun v => by kernel_rfl)
theorem i_allDiagonals_ok : FOK Tryz.prog n_i_allDiagonals i_allDiagonals_sh i_allDiagonals_fo i_allDiagonals :=
  fn_ok (E := i_allDiagonals_E) (i_allDiagonals_Eok) (told := i_allDiagonals_told) (fl := []) (c := bodyOf fn_i_allDiagonals) (s := i_allDiagonals_sh) (l := i_allDiagonals_fo) (tree := i_allDiagonals_t) fnat_i_allDiagonals (by kernel_rfl) (by kernel_rfl) (by kernel_rfl) (loopsOK_of (ls := [loopAt (bodyOf fn_i_allDiagonals) [0]]) (by kernel_rfl) ⟨.inr ⟨_, by kernel_rfl, i_allDiagonals_L3_ok⟩, trivial⟩) (fun v => by kernel_rfl)

theorem i_allDiagonals_row (n a : Nat) (t8 t9 : Int) (hn : n ≤ 1000) : ∀ (m b : Nat) (out : List Dg), b + m = n → out.length + m ≤ 1000000 →
    i_allDiagonals_L6 (((n : Int), ((), ((a : Int), ((b : Int), (t8, t9))))), out) = some (((n : Int), ((), (t8, t9))), out ++ rowD n a b)
  | 0, b, out, hb, ho => by
    have : b = n := by omega
    subst this
    rw [rowD_end, List.append_nil]
    simp only [i_allDiagonals_L6]
    exact loopO_done (by simp [i_allDiagonals_L6_step, T.run])
  | m + 1, b, out, hb, ho => by
    have c0 : (b : Int) < (n : Int) := by omega
    have w1 : w64 ((b : Int) + 1) = ((b + 1 : Nat) : Int) := by rw [w64_id (by omega) (by omega)]; omega
    have c1 : 2 * ((out.length + 1) * 17) ≤ 140737488355328 := by omega
    have hd := i_isDiagonal_eq (n : Int) ((a : Int), (b : Int)) (by omega) (by omega)
    rw [rowD_step (by omega : b < n)]
    cases hg : inDg n ((a : Int), (b : Int)) with
    | true =>
      have ih := i_allDiagonals_row n a t8 t9 hn m (b + 1) (out ++ [((a : Int), (b : Int))]) (by omega) (by simp; omega)
      simp only [i_allDiagonals_L6] at ih ⊢
      rw [hg] at hd
      have st : (i_allDiagonals_L6_step (((n : Int), ((), ((a : Int), ((b : Int), (t8, t9))))), out)).run = some (.inl (((n : Int), ((), ((a : Int), (((b + 1 : Nat) : Int), (t8, t9))))), out ++ [((a : Int), (b : Int))])) := by
        simp only [i_allDiagonals_L6_step, T.run, c0, hd, decide_true, if_true, Option.bind_some, win_one, win_all, List.length_cons, List.length_nil, Nat.zero_add, c1, w1, List.length_set, List.length_replicate, Nat.le_refl, List.length_append, true_and]
      rw [loopO_next st, ih]
      simp
    | false =>
      have ih := i_allDiagonals_row n a t8 t9 hn m (b + 1) out (by omega) (by omega)
      simp only [i_allDiagonals_L6] at ih ⊢
      rw [hg] at hd
      have st : (i_allDiagonals_L6_step (((n : Int), ((), ((a : Int), ((b : Int), (t8, t9))))), out)).run = some (.inl (((n : Int), ((), ((a : Int), (((b + 1 : Nat) : Int), (t8, t9))))), out)) := by
        simp only [i_allDiagonals_L6_step, T.run, c0, hd, decide_true, if_true, Option.bind_some, Bool.false_eq_true, if_false, w1, true_and]
      rw [loopO_next st, ih]
      simp
theorem i_allDiagonals_rows (n : Nat) (hn : n ≤ 9) : ∀ (m a : Nat) (out : List Dg), a + m = n → out.length ≤ 1000 * a →
    i_allDiagonals_L3 (((n : Int), ((), ((n : Int), (a : Int)))), out) = some ((), out ++ rowsD n a)
  | 0, a, out, ha, ho => by
    have : a = n := by omega
    subst this
    rw [rowsD_end, List.append_nil]
    simp only [i_allDiagonals_L3]
    exact loopO_done (by simp [i_allDiagonals_L3_step, T.run])
  | m + 1, a, out, ha, ho => by
    have c0 : (a : Int) < (n : Int) := by omega
    have w1 : w64 ((a : Int) + 1) = ((a + 1 : Nat) : Int) := by rw [w64_id (by omega) (by omega)]; omega
    have hr := i_allDiagonals_row n a (n : Int) (a : Int) (by omega) (n - (a + 1)) (a + 1) out (by omega) (by omega)
    rw [← rowD_front n a (a + 1) (by omega)] at hr
    have hl := rowD_len n a 0
    have ih := i_allDiagonals_rows n hn m (a + 1) (out ++ rowD n a 0) (by omega) (by rw [List.length_append]; omega)
    rw [rowsD_step (by omega : a < n), ← List.append_assoc]
    simp only [i_allDiagonals_L3] at ih ⊢
    rw [← ih]
    refine loopO_next ?_
    simp only [i_allDiagonals_L3_step, T.run, c0, decide_true, if_true, true_and, w1, hr, Option.bind_some]
theorem i_allDiagonals_eq (n : Nat) (hn : n ≤ 9) : i_allDiagonals (n : Int) = some ((), dgL n) := by
  have h := i_allDiagonals_rows n hn n 0 [] (by omega) (by simp)
  have e : rowsD n 0 = dgL n := by unfold rowsD; rw [List.drop_zero, dgL_rows]
  rw [e, List.nil_append, Int.natCast_zero] at h
  simp only [i_allDiagonals, i_allDiagonals_t, T.run, List.replicate_zero, h, Option.bind_some]
  simp


def slices_Clone_Diagonal_sh : FSh := ⟨[.one (.sl (.pair (.int .i64) (.int .i64)) false false)], []⟩
def slices_Clone_Diagonal_fo : List FO := [⟨[.one (.rw 0 0)], [.row 0 (.pair (.int .i64) (.int .i64))]⟩]
def slices_Clone_Diagonal (v : List (Int × Int)) : Option (Unit × List (Int × Int)) := if v.length ≤ maxLen ∧ v.length * 16 ≤ 140737488355328 then some ((), v) else none
def slices_Clone_Diagonal_ren : Shelf.Ren := ⟨fun _ => n_slices_Clone_Diagonal, fun t => if t = 4 then 4 else if t = 22 then 26 else 42, fun x => x⟩
theorem slices_Clone_Diagonal_lay : SlLaysE0.n41 Tryz.prog slices_Clone_Diagonal_ren :=
  { mixed := by kernel_rfl, f41 := ⟨"slices.Clone[[]loop.example/g01236/impl.Diagonal,loop.example/g01236/impl.Diagonal]", by kernel_rfl, by kernel_rfl⟩, t4 := by kernel_rfl, a4 := fun w => by kernel_rfl, z4 := fun w => by kernel_rfl, v4 := fun w => by kernel_rfl, t22 := by kernel_rfl, a22 := fun w => by kernel_rfl, z22 := fun w => by kernel_rfl, v22 := fun w => by kernel_rfl }
noncomputable def slices_Clone_Diagonal_info : TypeInfo := (Tryz.prog.info? 42).get (by kernel_rfl)
theorem slices_Clone_Diagonal_ok : FOK Tryz.prog n_slices_Clone_Diagonal slices_Clone_Diagonal_sh slices_Clone_Diagonal_fo slices_Clone_Diagonal :=
  clone_ok (e := (.pair (.int .i64) (.int .i64))) ⟨_, fnat_slices_Clone_Diagonal, by kernel_rfl, by kernel_rfl⟩ (ρr := slices_Clone_Diagonal_ren) rfl slices_Clone_Diagonal_lay rfl slices_Clone_Diagonal_info (.agg #[.int .i64 0, .int .i64 0]) 16 (by kernel_rfl) (by kernel_rfl) (by kernel_rfl) (by kernel_rfl) (by decide) (by decide) (fun w => by kernel_rfl)

def i_doCross_sh : FSh := ⟨[(.ag [(.si .i64), (.si .i64)]), (.ag [(.si .i64), (.si .i64)])], []⟩

def i_doCross_fo : List FO := [⟨[(.one .sb)], []⟩]
noncomputable def i_doCross_t : ((Int × Int) × (Int × Int)) → T Bool := fun ((d_0, d_1), (e_0, e_1)) =>
  (.test (decide (d_0 < e_0))
  (.test (decide (e_0 < d_1))
   (.test (decide (d_1 < e_1))
    (.ret true)
    (.test (decide (e_0 < d_0))
     (.test (decide (d_0 < e_1))
      (.ret (decide (e_1 < d_1)))
      (.ret false))
     (.ret false)))
   (.test (decide (e_0 < d_0))
    (.test (decide (d_0 < e_1))
     (.ret (decide (e_1 < d_1)))
     (.ret false))
    (.ret false)))
  (.test (decide (e_0 < d_0))
   (.test (decide (d_0 < e_1))
    (.ret (decide (e_1 < d_1)))
    (.ret false))
   (.ret false)))
noncomputable def i_doCross (v : ((Int × Int) × (Int × Int))) : Option Bool := (i_doCross_t v).run
noncomputable def i_doCross_E : TEnv := E0
theorem i_doCross_Eok : (i_doCross_E).OK := E0ok
noncomputable def i_doCross_told : Nat → Option SealT := fun id => none
theorem i_doCross_ok : FOK Tryz.prog n_i_doCross i_doCross_sh i_doCross_fo i_doCross :=
  fn_ok (E := i_doCross_E) (i_doCross_Eok) (told := i_doCross_told) (fl := []) (c := bodyOf fn_i_doCross) (s := i_doCross_sh) (l := i_doCross_fo) (tree := i_doCross_t) fnat_i_doCross (by kernel_rfl) (by kernel_rfl) (by kernel_rfl) (loopsOK_of (ls := []) (by kernel_rfl) trivial) (fun v => by kernel_rfl)

theorem i_doCross_eq (d e : Dg) : i_doCross (d, e) = some (crossD d e) := by
  obtain ⟨a, b⟩ := d
  obtain ⟨c, f⟩ := e
  simp only [i_doCross, i_doCross_t, T.run, crossD]
  by_cases h1 : a < c <;> by_cases h2 : c < b <;> by_cases h3 : b < f <;> by_cases h4 : c < a <;> by_cases h5 : a < f <;> by_cases h6 : f < b <;> simp [h1, h2, h3, h4, h5, h6]


def i_allTriangulations_1_1_sh : FSh := ⟨[(.ag [(.si .i64), (.si .i64)]), (.one (.pf 0 0 0)), (.one (.pf 2 0 0))], [(.rcd 0 [(.rw 1 0)]), (.row 0 (.pair (.int .i64) (.int .i64))), (.rcd 0 [(.si .i64)])]⟩

def i_allTriangulations_1_1_fo : List FO := [⟨[(.one .sb)], [(.rcd 0 [(.rw 1 0)]), (.row 0 (.pair (.int .i64) (.int .i64))), (.rcd 0 [(.si .i64)])]⟩]
noncomputable def i_allTriangulations_1_1_t : (((Int × Int) × Unit × Unit) × (Unit × List ((Int × Int)) × Int)) → T (Bool × (Unit × List ((Int × Int)) × Int)) := fun (((e_0, e_1), (), ()), ((), t1_r, t2_0)) =>
  (.test (decide ((0 ≤ t2_0) ∧ (t2_0 < ((List.length t1_r) : Int))))
  (.sub (t1_r[(0 + (Int.toNat t2_0))]?) fun z0 =>
   (.sub (i_doCross ((z0.1, z0.2), (e_0, e_1))) fun z1 =>
   (.test (decide ((0 = 0) ∧ ((List.length t1_r) = (List.length t1_r))))
   (.ret (z1, ((), (t1_r, t2_0))))
   .fail)))
  .fail)
noncomputable def i_allTriangulations_1_1 (v : (((Int × Int) × Unit × Unit) × (Unit × List ((Int × Int)) × Int))) : Option (Bool × (Unit × List ((Int × Int)) × Int)) := (i_allTriangulations_1_1_t v).run
noncomputable def i_allTriangulations_1_1_E : TEnv := (E0.add1 n_i_doCross i_doCross_sh i_doCross_fo i_doCross)
theorem i_allTriangulations_1_1_Eok : (i_allTriangulations_1_1_E).OK := (E0ok.add1 i_doCross_ok)
noncomputable def i_allTriangulations_1_1_told : Nat → Option SealT := fun id => none
theorem i_allTriangulations_1_1_ok : FOK Tryz.prog n_i_allTriangulations_1_1 i_allTriangulations_1_1_sh i_allTriangulations_1_1_fo i_allTriangulations_1_1 :=
  fn_ok (E := i_allTriangulations_1_1_E) (i_allTriangulations_1_1_Eok) (told := i_allTriangulations_1_1_told) (fl := []) (c := bodyOf fn_i_allTriangulations_1_1) (s := i_allTriangulations_1_1_sh) (l := i_allTriangulations_1_1_fo) (tree := i_allTriangulations_1_1_t) fnat_i_allTriangulations_1_1 (by kernel_rfl) (by kernel_rfl) (by kernel_rfl) (loopsOK_of (ls := []) (by kernel_rfl) trivial) (fun v => by kernel_rfl)

def slices_IndexFunc_Diagonal__i_allTriangulations_1_1_sh : FSh := ⟨[(.one (.sl (.pair (.int .i64) (.int .i64)) false false)), (.clo n_i_allTriangulations_1_1 [(.one (.pf 0 0 0)), (.one (.pf 2 0 0))])], [(.rcd 0 [(.rw 1 0)]), (.row 0 (.pair (.int .i64) (.int .i64))), (.rcd 0 [(.si .i64)])]⟩

def slices_IndexFunc_Diagonal__i_allTriangulations_1_1_L2_sh : LSh := ⟨(fun ex => match ex with | .norm => [(0, none), (1, none), (7, none), (8, none)] | .exit i => if i = 0 then [] else [] | .ret => [(4, none)]), [(0, (.one (.sl (.pair (.int .i64) (.int .i64)) false false))), (1, (.clo n_i_allTriangulations_1_1 [(.one (.pf 0 0 0)), (.one (.pf 2 0 0))])), (7, (.one (.si .i64))), (8, (.one (.si .i64)))], [(.rcd 0 [(.rw 1 0)]), (.row 0 (.pair (.int .i64) (.int .i64))), (.rcd 0 [(.si .i64)])], [⟨.ret, [(4, (.one (.si .i64)))], [(.rcd 0 [(.rw 1 0)]), (.row 0 (.pair (.int .i64) (.int .i64))), (.rcd 0 [(.si .i64)])]⟩, ⟨(.exit 0), [], [(.rcd 0 [(.rw 1 0)]), (.row 0 (.pair (.int .i64) (.int .i64))), (.rcd 0 [(.si .i64)])]⟩], [], []⟩
noncomputable def slices_IndexFunc_Diagonal__i_allTriangulations_1_1_L2_step : ((List ((Int × Int)) × (Unit × Unit) × Int × Int) × (Unit × List ((Int × Int)) × Int)) → T (((List ((Int × Int)) × (Unit × Unit) × Int × Int) × (Unit × List ((Int × Int)) × Int)) ⊕ ((Int × (Unit × List ((Int × Int)) × Int)) ⊕ (Unit × (Unit × List ((Int × Int)) × Int)))) := fun ((s, ((), ()), t7, t8), ((), r0_r, r2_0)) =>
  (.test (decide (t8 < t7))
  (.test (decide ((0 ≤ t8) ∧ (t8 < ((List.length s) : Int))))
   (.sub (s[(Int.toNat t8)]?) fun z0 =>
    (.test (decide ((0 = 0) ∧ ((List.length r0_r) = (List.length r0_r))))
    (.sub (i_allTriangulations_1_1 (((z0.1, z0.2), ((), ())), ((), (r0_r, r2_0)))) fun z1 =>
     (.test z1.1
     (.test (decide ((0 = 0) ∧ ((List.length z1.2.2.1) = (List.length z1.2.2.1))))
      (.ret (Sum.inr (Sum.inl (t8, ((), (z1.2.2.1, z1.2.2.2))))))
      .fail)
     (.test (decide ((0 = 0) ∧ ((List.length z1.2.2.1) = (List.length z1.2.2.1))))
      (.ret (Sum.inl ((s, (((), ()), (t7, (w64 (t8 + 1))))), ((), (z1.2.2.1, z1.2.2.2)))))
      .fail)))
    .fail))
   .fail)
  (.test (decide ((0 = 0) ∧ ((List.length r0_r) = (List.length r0_r))))
   (.ret (Sum.inr (Sum.inr ((), ((), (r0_r, r2_0))))))
   .fail))
noncomputable def slices_IndexFunc_Diagonal__i_allTriangulations_1_1_L2 (v : ((List ((Int × Int)) × (Unit × Unit) × Int × Int) × (Unit × List ((Int × Int)) × Int))) : Option ((Int × (Unit × List ((Int × Int)) × Int)) ⊕ (Unit × (Unit × List ((Int × Int)) × Int))) := loopO (fun v => (slices_IndexFunc_Diagonal__i_allTriangulations_1_1_L2_step v).run) v

def slices_IndexFunc_Diagonal__i_allTriangulations_1_1_fo : List FO := [⟨[(.one (.si .i64))], [(.rcd 0 [(.rw 1 0)]), (.row 0 (.pair (.int .i64) (.int .i64))), (.rcd 0 [(.si .i64)])]⟩]
noncomputable def slices_IndexFunc_Diagonal__i_allTriangulations_1_1_t : ((List ((Int × Int)) × (Unit × Unit)) × (Unit × List ((Int × Int)) × Int)) → T (Int × (Unit × List ((Int × Int)) × Int)) := fun ((s, ((), ())), ((), r0_r, r2_0)) =>
  (.test (decide ((0 = 0) ∧ ((List.length r0_r) = (List.length r0_r))))
  (.sub (slices_IndexFunc_Diagonal__i_allTriangulations_1_1_L2 ((s, (((), ()), (((List.length s) : Int), (0 : Int)))), ((), (r0_r, r2_0)))) fun z0 =>
   (.test (Sum.isLeft z0)
   (.sub (Sum.getLeft? z0) fun z1 =>
    (.test (decide ((0 = 0) ∧ ((List.length z1.2.2.1) = (List.length z1.2.2.1))))
    (.ret (z1.1, ((), (z1.2.2.1, z1.2.2.2))))
    .fail))
   (.sub (Sum.getRight? z0) fun z2 =>
    (.test (decide ((0 = 0) ∧ ((List.length z2.2.2.1) = (List.length z2.2.2.1))))
    (.ret ((-1), ((), (z2.2.2.1, z2.2.2.2))))
    .fail))))
  .fail)
noncomputable def slices_IndexFunc_Diagonal__i_allTriangulations_1_1 (v : ((List ((Int × Int)) × (Unit × Unit)) × (Unit × List ((Int × Int)) × Int))) : Option (Int × (Unit × List ((Int × Int)) × Int)) := (slices_IndexFunc_Diagonal__i_allTriangulations_1_1_t v).run
noncomputable def slices_IndexFunc_Diagonal__i_allTriangulations_1_1_E : TEnv := (E0.add1 n_i_allTriangulations_1_1 i_allTriangulations_1_1_sh i_allTriangulations_1_1_fo i_allTriangulations_1_1)
theorem slices_IndexFunc_Diagonal__i_allTriangulations_1_1_Eok : (slices_IndexFunc_Diagonal__i_allTriangulations_1_1_E).OK := (E0ok.add1 i_allTriangulations_1_1_ok)
noncomputable def slices_IndexFunc_Diagonal__i_allTriangulations_1_1_told : Nat → Option SealT := fun id => if id = 2 then some (LSh.told slices_IndexFunc_Diagonal__i_allTriangulations_1_1_L2_sh 3 (slices_IndexFunc_Diagonal__i_allTriangulations_1_1_L2_step)) else none
theorem slices_IndexFunc_Diagonal__i_allTriangulations_1_1_L2_ok : ToldOK Tryz.prog 3 (loopAt (bodyOf fn_slices_IndexFunc_Diagonal) [0]) (LSh.told slices_IndexFunc_Diagonal__i_allTriangulations_1_1_L2_sh 3 (slices_IndexFunc_Diagonal__i_allTriangulations_1_1_L2_step)) :=
  loop_ok (E := slices_IndexFunc_Diagonal__i_allTriangulations_1_1_E) (slices_IndexFunc_Diagonal__i_allTriangulations_1_1_Eok) (told := slices_IndexFunc_Diagonal__i_allTriangulations_1_1_told) (l := slices_IndexFunc_Diagonal__i_allTriangulations_1_1_L2_sh) (step := slices_IndexFunc_Diagonal__i_allTriangulations_1_1_L2_step) (loopsOK_of (ls := []) (by kernel_rfl) trivial) (by kernel_rfl) (fun v => by kernel_rfl)
theorem slices_IndexFunc_Diagonal__i_allTriangulations_1_1_ok : FOK Tryz.prog n_slices_IndexFunc_Diagonal slices_IndexFunc_Diagonal__i_allTriangulations_1_1_sh slices_IndexFunc_Diagonal__i_allTriangulations_1_1_fo slices_IndexFunc_Diagonal__i_allTriangulations_1_1 :=
  fn_ok (E := slices_IndexFunc_Diagonal__i_allTriangulations_1_1_E) (slices_IndexFunc_Diagonal__i_allTriangulations_1_1_Eok) (told := slices_IndexFunc_Diagonal__i_allTriangulations_1_1_told) (fl := []) (c := bodyOf fn_slices_IndexFunc_Diagonal) (s := slices_IndexFunc_Diagonal__i_allTriangulations_1_1_sh) (l := slices_IndexFunc_Diagonal__i_allTriangulations_1_1_fo) (tree := slices_IndexFunc_Diagonal__i_allTriangulations_1_1_t) fnat_slices_IndexFunc_Diagonal (by kernel_rfl) (by kernel_rfl) (by kernel_rfl) (loopsOK_of (ls := [loopAt (bodyOf fn_slices_IndexFunc_Diagonal) [0]]) (by kernel_rfl) ⟨.inr ⟨_, by kernel_rfl, slices_IndexFunc_Diagonal__i_allTriangulations_1_1_L2_ok⟩, trivial⟩) (fun v => by kernel_rfl)

def slices_ContainsFunc_Diagonal__i_allTriangulations_1_1_sh : FSh := ⟨[(.one (.sl (.pair (.int .i64) (.int .i64)) false false)), (.clo n_i_allTriangulations_1_1 [(.one (.pf 0 0 0)), (.one (.pf 2 0 0))])], [(.rcd 0 [(.rw 1 0)]), (.row 0 (.pair (.int .i64) (.int .i64))), (.rcd 0 [(.si .i64)])]⟩

def slices_ContainsFunc_Diagonal__i_allTriangulations_1_1_fo : List FO := [⟨[(.one .sb)], [(.rcd 0 [(.rw 1 0)]), (.row 0 (.pair (.int .i64) (.int .i64))), (.rcd 0 [(.si .i64)])]⟩]
noncomputable def slices_ContainsFunc_Diagonal__i_allTriangulations_1_1_t : ((List ((Int × Int)) × (Unit × Unit)) × (Unit × List ((Int × Int)) × Int)) → T (Bool × (Unit × List ((Int × Int)) × Int)) := fun ((s, ((), ())), ((), r0_r, r2_0)) =>
  (.test (decide ((0 = 0) ∧ ((List.length r0_r) = (List.length r0_r))))
  (.sub (slices_IndexFunc_Diagonal__i_allTriangulations_1_1 ((s, ((), ())), ((), (r0_r, r2_0)))) fun z0 =>
   (.test (decide ((0 = 0) ∧ ((List.length z0.2.2.1) = (List.length z0.2.2.1))))
   (.ret ((decide (z0.1 ≥ 0)), ((), (z0.2.2.1, z0.2.2.2))))
   .fail))
  .fail)
noncomputable def slices_ContainsFunc_Diagonal__i_allTriangulations_1_1 (v : ((List ((Int × Int)) × (Unit × Unit)) × (Unit × List ((Int × Int)) × Int))) : Option (Bool × (Unit × List ((Int × Int)) × Int)) := (slices_ContainsFunc_Diagonal__i_allTriangulations_1_1_t v).run
noncomputable def slices_ContainsFunc_Diagonal__i_allTriangulations_1_1_E : TEnv := (E0.add1 n_slices_IndexFunc_Diagonal slices_IndexFunc_Diagonal__i_allTriangulations_1_1_sh slices_IndexFunc_Diagonal__i_allTriangulations_1_1_fo slices_IndexFunc_Diagonal__i_allTriangulations_1_1)
theorem slices_ContainsFunc_Diagonal__i_allTriangulations_1_1_Eok : (slices_ContainsFunc_Diagonal__i_allTriangulations_1_1_E).OK := (E0ok.add1 slices_IndexFunc_Diagonal__i_allTriangulations_1_1_ok)
noncomputable def slices_ContainsFunc_Diagonal__i_allTriangulations_1_1_told : Nat → Option SealT := fun id => none
theorem slices_ContainsFunc_Diagonal__i_allTriangulations_1_1_ok : FOK Tryz.prog n_slices_ContainsFunc_Diagonal slices_ContainsFunc_Diagonal__i_allTriangulations_1_1_sh slices_ContainsFunc_Diagonal__i_allTriangulations_1_1_fo slices_ContainsFunc_Diagonal__i_allTriangulations_1_1 :=
  fn_ok (E := slices_ContainsFunc_Diagonal__i_allTriangulations_1_1_E) (slices_ContainsFunc_Diagonal__i_allTriangulations_1_1_Eok) (told := slices_ContainsFunc_Diagonal__i_allTriangulations_1_1_told) (fl := []) (c := bodyOf fn_slices_ContainsFunc_Diagonal) (s := slices_ContainsFunc_Diagonal__i_allTriangulations_1_1_sh) (l := slices_ContainsFunc_Diagonal__i_allTriangulations_1_1_fo) (tree := slices_ContainsFunc_Diagonal__i_allTriangulations_1_1_t) fnat_slices_ContainsFunc_Diagonal (by kernel_rfl) (by kernel_rfl) (by kernel_rfl) (loopsOK_of (ls := []) (by kernel_rfl) trivial) (fun v => by kernel_rfl)

end Go.Proofs.W
