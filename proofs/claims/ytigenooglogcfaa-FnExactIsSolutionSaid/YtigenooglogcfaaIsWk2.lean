/- Functions of the program, walked, and what they compute. -/
import Derived.Test.YtigenooglogcfaaIsWk1
set_option linter.unusedVariables false
set_option linter.unusedSimpArgs false
set_option maxRecDepth 100000
set_option maxHeartbeats 4000000
namespace Go.Proofs.W
open Go Go.Gm Go.Proofs
open Go.RowKit Go.Shelf
def s_poOf_sh : FSh := ⟨[(.one (.sl (.int .i64) false false))], []⟩

def s_poOf_L5_sh : LSh := ⟨(fun ex => match ex with | .norm => [(4, none), (5, none), (26, none), (27, none)] | .exit i => if i = 0 then [(4, none), (5, none)] else [] | .ret => [(2, none), (3, none)]), [(4, (.one (.rw 0 0))), (5, (.one (.rw 1 0))), (26, (.one (.si .i64))), (27, (.one (.si .i64)))], [(.row 0 (.int .i64)), (.row 0 (.int .i64))], [⟨(.exit 0), [(4, (.one (.rw 0 0))), (5, (.one (.rw 1 0)))], [(.row 0 (.int .i64)), (.row 0 (.int .i64))]⟩], [], []⟩
noncomputable def s_poOf_L5_step : ((Unit × Unit × Int × Int) × (List (Int) × List (Int))) → T (((Unit × Unit × Int × Int) × (List (Int) × List (Int))) ⊕ ((Unit × Unit) × (List (Int) × List (Int)))) := fun (((), (), t26, t27), (left, corners)) =>
  (.test (decide (t27 < t26))
  (.test (decide (1 ≤ (List.length (List.set (List.replicate 1 (0 : Int)) 0 t27))))
   (.test (decide ((0 + (List.length corners)) ≤ (List.length corners)))
    (.test (decide ((2 * (((List.length corners) + (List.length (win (List.set (List.replicate 1 (0 : Int)) 0 t27) 0 1))) * 9)) ≤ 140737488355328))
     (.test (decide ((0 = 0) ∧ ((List.length left) = (List.length left))))
      (.test (decide ((0 = 0) ∧ (((List.length corners) + (List.length (win (List.set (List.replicate 1 (0 : Int)) 0 t27) 0 1))) = (List.length ((win corners 0 (List.length corners)) ++ (win (List.set (List.replicate 1 (0 : Int)) 0 t27) 0 1))))))
       (.ret (Sum.inl (((), ((), (t26, (w64 (t27 + 1))))), (left, ((win corners 0 (List.length corners)) ++ (win (List.set (List.replicate 1 (0 : Int)) 0 t27) 0 1))))))
       .fail)
      .fail)
     .fail)
    .fail)
   .fail)
  (.test (decide ((0 = 0) ∧ ((List.length left) = (List.length left))))
   (.test (decide ((0 = 0) ∧ ((List.length corners) = (List.length corners))))
    (.ret (Sum.inr (((), ()), (left, corners))))
    .fail)
   .fail))
noncomputable def s_poOf_L5 (v : ((Unit × Unit × Int × Int) × (List (Int) × List (Int)))) : Option ((Unit × Unit) × (List (Int) × List (Int))) := loopO (fun v => (s_poOf_L5_step v).run) v

def s_poOf_L13_sh : LSh := ⟨(fun ex => match ex with | .norm => [(4, none), (5, none), (7, none), (8, none), (38, none), (39, none), (40, none)] | .exit i => if i = 4 then [(4, none), (5, none), (7, none), (8, none)] else if i = 3 then [(4, none), (5, none), (7, none)] else if i = 2 then [(4, none), (7, none)] else [] | .ret => [(2, none), (3, none)]), [(4, (.one (.rw 0 0))), (5, (.one (.rw 1 0))), (7, (.one (.rw 2 0))), (8, (.one (.si .i64))), (38, (.one (.rw 0 0))), (39, (.one (.si .i64))), (40, (.one (.si .i64)))], [(.row 0 (.int .i64)), (.row 0 (.int .i64)), (.row 0 (.pair (.int .i64) (.int .i64)))], [⟨(.exit 4), [(4, (.one (.rw 0 0))), (5, (.one (.rw 1 0))), (7, (.one (.rw 2 0))), (8, (.one (.si .i64)))], [(.row 0 (.int .i64)), (.row 0 (.int .i64)), (.row 0 (.pair (.int .i64) (.int .i64)))]⟩], [], []⟩
noncomputable def s_poOf_L13_step : ((Unit × Unit × Unit × Int × Unit × Int × Int) × (List (Int) × List (Int) × List ((Int × Int)))) → T (((Unit × Unit × Unit × Int × Unit × Int × Int) × (List (Int) × List (Int) × List ((Int × Int)))) ⊕ ((Unit × Unit × Unit × Int) × (List (Int) × List (Int) × List ((Int × Int))))) := fun (((), (), (), at', (), t39, t40), (left, corners, out)) =>
  (.test (decide (t40 < t39))
  (.test (decide ((0 ≤ t40) ∧ (t40 < ((List.length left) : Int))))
   (.sub (left[(0 + (Int.toNat t40))]?) fun z0 =>
    (.test (z0 == 1)
    (.test (decide (at' < 0))
     (.test (decide ((0 = 0) ∧ ((List.length left) = (List.length left))))
      (.test (decide ((0 = 0) ∧ ((List.length corners) = (List.length corners))))
       (.test (decide ((0 = 0) ∧ ((List.length out) = (List.length out))))
        (.test (decide ((0 = 0) ∧ ((List.length left) = (List.length left))))
         (.ret (Sum.inl (((), ((), ((), (t40, ((), (t39, (w64 (t40 + 1)))))))), (left, (corners, out)))))
         .fail)
        .fail)
       .fail)
      .fail)
     (.test (decide ((0 = 0) ∧ ((List.length left) = (List.length left))))
      (.test (decide ((0 = 0) ∧ ((List.length corners) = (List.length corners))))
       (.test (decide ((0 = 0) ∧ ((List.length out) = (List.length out))))
        (.test (decide ((0 = 0) ∧ ((List.length left) = (List.length left))))
         (.ret (Sum.inl (((), ((), ((), (at', ((), (t39, (w64 (t40 + 1)))))))), (left, (corners, out)))))
         .fail)
        .fail)
       .fail)
      .fail))
    (.test (decide ((0 = 0) ∧ ((List.length left) = (List.length left))))
     (.test (decide ((0 = 0) ∧ ((List.length corners) = (List.length corners))))
      (.test (decide ((0 = 0) ∧ ((List.length out) = (List.length out))))
       (.test (decide ((0 = 0) ∧ ((List.length left) = (List.length left))))
        (.ret (Sum.inl (((), ((), ((), (at', ((), (t39, (w64 (t40 + 1)))))))), (left, (corners, out)))))
        .fail)
       .fail)
      .fail)
     .fail)))
   .fail)
  (.test (decide ((0 = 0) ∧ ((List.length left) = (List.length left))))
   (.test (decide ((0 = 0) ∧ ((List.length corners) = (List.length corners))))
    (.test (decide ((0 = 0) ∧ ((List.length out) = (List.length out))))
     (.ret (Sum.inr (((), ((), ((), at'))), (left, (corners, out)))))
     .fail)
    .fail)
   .fail))
noncomputable def s_poOf_L13 (v : ((Unit × Unit × Unit × Int × Unit × Int × Int) × (List (Int) × List (Int) × List ((Int × Int))))) : Option ((Unit × Unit × Unit × Int) × (List (Int) × List (Int) × List ((Int × Int)))) := loopO (fun v => (s_poOf_L13_step v).run) v

def s_poOf_L10_sh : LSh := ⟨(fun ex => match ex with | .norm => [(4, none), (5, none), (7, none)] | .exit i => if i = 2 then [(4, none), (7, none)] else [] | .ret => [(2, none), (3, none)]), [(4, (.one (.rw 0 0))), (5, (.one (.rw 1 0))), (7, (.one (.rw 2 0)))], [(.row 0 (.int .i64)), (.row 0 (.int .i64)), (.row 0 (.pair (.int .i64) (.int .i64)))], [⟨.ret, [(2, (.one (.rw 0 0))), (3, (.one .sb))], [(.row 0 (.pair (.int .i64) (.int .i64)))]⟩, ⟨(.exit 2), [(4, (.one (.rw 0 0))), (7, (.one (.rw 1 0)))], [(.row 0 (.int .i64)), (.row 0 (.pair (.int .i64) (.int .i64)))]⟩], [], []⟩
noncomputable def s_poOf_L10_step : ((Unit × Unit × Unit) × (List (Int) × List (Int) × List ((Int × Int)))) → T (((Unit × Unit × Unit) × (List (Int) × List (Int) × List ((Int × Int)))) ⊕ (((Unit × Bool) × List ((Int × Int))) ⊕ ((Unit × Unit) × (List (Int) × List ((Int × Int)))))) := fun (((), (), ()), (left, corners, out)) =>
  (.test (decide (((List.length left) : Int) > 3))
  (.test (decide ((0 = 0) ∧ ((List.length left) = (List.length left))))
   (.test (decide ((0 = 0) ∧ ((List.length corners) = (List.length corners))))
    (.test (decide ((0 = 0) ∧ ((List.length out) = (List.length out))))
     (.test (decide ((0 = 0) ∧ ((List.length left) = (List.length left))))
      (.sub (s_poOf_L13 (((), ((), ((), ((-1), ((), (((List.length left) : Int), (0 : Int))))))), (left, (corners, out)))) fun z0 =>
       (.test (decide (z0.1.2.2.2 < 0))
       (.test true
        (.ret (Sum.inr (Sum.inl (((), false), ([] : List (Int × Int))))))
        .fail)
       (.test (decide (((List.length z0.2.1) : Int) ≠ 0))
        (.test (decide (((List.length z0.2.1) : Int) ≠ 0))
         (.test (decide ((0 ≤ (Int.tmod (w64 ((w64 (z0.1.2.2.2 + ((List.length z0.2.1) : Int))) - 1)) ((List.length z0.2.1) : Int))) ∧ ((Int.tmod (w64 ((w64 (z0.1.2.2.2 + ((List.length z0.2.1) : Int))) - 1)) ((List.length z0.2.1) : Int)) < ((List.length z0.2.1) : Int))))
          (.sub (z0.2.1[(0 + (Int.toNat (Int.tmod (w64 ((w64 (z0.1.2.2.2 + ((List.length z0.2.1) : Int))) - 1)) ((List.length z0.2.1) : Int))))]?) fun z1 =>
           (.test (decide ((0 ≤ (Int.tmod (w64 ((w64 (z0.1.2.2.2 + ((List.length z0.2.1) : Int))) - 1)) ((List.length z0.2.1) : Int))) ∧ ((Int.tmod (w64 ((w64 (z0.1.2.2.2 + ((List.length z0.2.1) : Int))) - 1)) ((List.length z0.2.1) : Int)) < ((List.length z0.2.1) : Int))))
           (.sub (z0.2.1[(0 + (Int.toNat (Int.tmod (w64 ((w64 (z0.1.2.2.2 + ((List.length z0.2.1) : Int))) - 1)) ((List.length z0.2.1) : Int))))]?) fun z2 =>
            (.test (decide ((0 ≤ (Int.tmod (w64 (z0.1.2.2.2 + 1)) ((List.length z0.2.1) : Int))) ∧ ((Int.tmod (w64 (z0.1.2.2.2 + 1)) ((List.length z0.2.1) : Int)) < ((List.length z0.2.1) : Int))))
            (.sub ((List.set z0.2.1 (0 + (Int.toNat (Int.tmod (w64 ((w64 (z0.1.2.2.2 + ((List.length z0.2.1) : Int))) - 1)) ((List.length z0.2.1) : Int)))) (w64 (z1 - 1)))[(0 + (Int.toNat (Int.tmod (w64 (z0.1.2.2.2 + 1)) ((List.length z0.2.1) : Int))))]?) fun z3 =>
             (.test (decide ((0 ≤ (Int.tmod (w64 (z0.1.2.2.2 + 1)) ((List.length z0.2.1) : Int))) ∧ ((Int.tmod (w64 (z0.1.2.2.2 + 1)) ((List.length z0.2.1) : Int)) < ((List.length z0.2.1) : Int))))
             (.sub ((List.set z0.2.1 (0 + (Int.toNat (Int.tmod (w64 ((w64 (z0.1.2.2.2 + ((List.length z0.2.1) : Int))) - 1)) ((List.length z0.2.1) : Int)))) (w64 (z1 - 1)))[(0 + (Int.toNat (Int.tmod (w64 (z0.1.2.2.2 + 1)) ((List.length z0.2.1) : Int))))]?) fun z4 =>
              (.test (decide ((0 ≤ (Int.tmod (w64 ((w64 (z0.1.2.2.2 + ((List.length z0.2.1) : Int))) - 1)) ((List.length z0.2.1) : Int))) ∧ ((Int.tmod (w64 ((w64 (z0.1.2.2.2 + ((List.length z0.2.1) : Int))) - 1)) ((List.length z0.2.1) : Int)) < ((List.length z0.2.1) : Int))))
              (.sub ((List.set (List.set z0.2.1 (0 + (Int.toNat (Int.tmod (w64 ((w64 (z0.1.2.2.2 + ((List.length z0.2.1) : Int))) - 1)) ((List.length z0.2.1) : Int)))) (w64 (z1 - 1))) (0 + (Int.toNat (Int.tmod (w64 (z0.1.2.2.2 + 1)) ((List.length z0.2.1) : Int)))) (w64 (z3 - 1)))[(0 + (Int.toNat (Int.tmod (w64 ((w64 (z0.1.2.2.2 + ((List.length z0.2.1) : Int))) - 1)) ((List.length z0.2.1) : Int))))]?) fun z5 =>
               (.test (decide (z5 < 1))
               (.test true
                (.ret (Sum.inr (Sum.inl (((), false), ([] : List (Int × Int))))))
                .fail)
               (.test (decide ((0 ≤ (Int.tmod (w64 (z0.1.2.2.2 + 1)) ((List.length z0.2.1) : Int))) ∧ ((Int.tmod (w64 (z0.1.2.2.2 + 1)) ((List.length z0.2.1) : Int)) < ((List.length z0.2.1) : Int))))
                (.sub ((List.set (List.set z0.2.1 (0 + (Int.toNat (Int.tmod (w64 ((w64 (z0.1.2.2.2 + ((List.length z0.2.1) : Int))) - 1)) ((List.length z0.2.1) : Int)))) (w64 (z1 - 1))) (0 + (Int.toNat (Int.tmod (w64 (z0.1.2.2.2 + 1)) ((List.length z0.2.1) : Int)))) (w64 (z3 - 1)))[(0 + (Int.toNat (Int.tmod (w64 (z0.1.2.2.2 + 1)) ((List.length z0.2.1) : Int))))]?) fun z6 =>
                 (.test (decide (z6 < 1))
                 (.test true
                  (.ret (Sum.inr (Sum.inl (((), false), ([] : List (Int × Int))))))
                  .fail)
                 (.test (decide ((0 ≤ (Int.tmod (w64 ((w64 (z0.1.2.2.2 + ((List.length z0.2.1) : Int))) - 1)) ((List.length z0.2.1) : Int))) ∧ ((Int.tmod (w64 ((w64 (z0.1.2.2.2 + ((List.length z0.2.1) : Int))) - 1)) ((List.length z0.2.1) : Int)) < ((List.length z0.2.2.1) : Int))))
                  (.sub (z0.2.2.1[(0 + (Int.toNat (Int.tmod (w64 ((w64 (z0.1.2.2.2 + ((List.length z0.2.1) : Int))) - 1)) ((List.length z0.2.1) : Int))))]?) fun z7 =>
                   (.test (decide ((0 ≤ (Int.tmod (w64 (z0.1.2.2.2 + 1)) ((List.length z0.2.1) : Int))) ∧ ((Int.tmod (w64 (z0.1.2.2.2 + 1)) ((List.length z0.2.1) : Int)) < ((List.length z0.2.2.1) : Int))))
                   (.sub (z0.2.2.1[(0 + (Int.toNat (Int.tmod (w64 (z0.1.2.2.2 + 1)) ((List.length z0.2.1) : Int))))]?) fun z8 =>
                    (.sub (s_l1Least (z7, z8)) fun z9 =>
                    (.test (decide ((0 ≤ (Int.tmod (w64 ((w64 (z0.1.2.2.2 + ((List.length z0.2.1) : Int))) - 1)) ((List.length z0.2.1) : Int))) ∧ ((Int.tmod (w64 ((w64 (z0.1.2.2.2 + ((List.length z0.2.1) : Int))) - 1)) ((List.length z0.2.1) : Int)) < ((List.length z0.2.2.1) : Int))))
                    (.sub (z0.2.2.1[(0 + (Int.toNat (Int.tmod (w64 ((w64 (z0.1.2.2.2 + ((List.length z0.2.1) : Int))) - 1)) ((List.length z0.2.1) : Int))))]?) fun z10 =>
                     (.test (decide ((0 ≤ (Int.tmod (w64 (z0.1.2.2.2 + 1)) ((List.length z0.2.1) : Int))) ∧ ((Int.tmod (w64 (z0.1.2.2.2 + 1)) ((List.length z0.2.1) : Int)) < ((List.length z0.2.2.1) : Int))))
                     (.sub (z0.2.2.1[(0 + (Int.toNat (Int.tmod (w64 (z0.1.2.2.2 + 1)) ((List.length z0.2.1) : Int))))]?) fun z11 =>
                      (.sub (s_l1Most (z10, z11)) fun z12 =>
                      (.test (decide (1 ≤ (List.length (List.set (List.replicate 1 ((0 : Int), (0 : Int))) 0 (z9, z12)))))
                      (.test (decide ((0 + (List.length z0.2.2.2)) ≤ (List.length z0.2.2.2)))
                       (.test (decide ((2 * (((List.length z0.2.2.2) + (List.length (win (List.set (List.replicate 1 ((0 : Int), (0 : Int))) 0 (z9, z12)) 0 1))) * 17)) ≤ 140737488355328))
                        (.test (decide (0 ≤ z0.1.2.2.2))
                         (.test (decide ((0 ≤ (Int.toNat z0.1.2.2.2)) ∧ ((Int.toNat z0.1.2.2.2) ≤ (List.length z0.2.1))))
                          (.test (decide ((0 + ((Int.toNat z0.1.2.2.2) - 0)) ≤ (List.length (List.set (List.set z0.2.1 (0 + (Int.toNat (Int.tmod (w64 ((w64 (z0.1.2.2.2 + ((List.length z0.2.1) : Int))) - 1)) ((List.length z0.2.1) : Int)))) (w64 (z1 - 1))) (0 + (Int.toNat (Int.tmod (w64 (z0.1.2.2.2 + 1)) ((List.length z0.2.1) : Int)))) (w64 (z3 - 1))))))
                           (.sub (s_l1Own (win (List.set (List.set z0.2.1 (0 + (Int.toNat (Int.tmod (w64 ((w64 (z0.1.2.2.2 + ((List.length z0.2.1) : Int))) - 1)) ((List.length z0.2.1) : Int)))) (w64 (z1 - 1))) (0 + (Int.toNat (Int.tmod (w64 (z0.1.2.2.2 + 1)) ((List.length z0.2.1) : Int)))) (w64 (z3 - 1))) 0 ((Int.toNat z0.1.2.2.2) - 0))) fun z13 =>
                            (.test (decide (0 ≤ (w64 (z0.1.2.2.2 + 1))))
                            (.test (decide (((Int.toNat (w64 (z0.1.2.2.2 + 1))) ≤ (List.length z0.2.1)) ∧ ((List.length z0.2.1) ≤ (List.length z0.2.1))))
                             (.test (decide (((0 + (Int.toNat (w64 (z0.1.2.2.2 + 1)))) + ((List.length z0.2.1) - (Int.toNat (w64 (z0.1.2.2.2 + 1))))) ≤ (List.length (List.set (List.set z0.2.1 (0 + (Int.toNat (Int.tmod (w64 ((w64 (z0.1.2.2.2 + ((List.length z0.2.1) : Int))) - 1)) ((List.length z0.2.1) : Int)))) (w64 (z1 - 1))) (0 + (Int.toNat (Int.tmod (w64 (z0.1.2.2.2 + 1)) ((List.length z0.2.1) : Int)))) (w64 (z3 - 1))))))
                              (.test (decide ((0 + (List.length z13.2)) ≤ (List.length z13.2)))
                               (.test (decide ((2 * (((List.length z13.2) + (List.length (win (List.set (List.set z0.2.1 (0 + (Int.toNat (Int.tmod (w64 ((w64 (z0.1.2.2.2 + ((List.length z0.2.1) : Int))) - 1)) ((List.length z0.2.1) : Int)))) (w64 (z1 - 1))) (0 + (Int.toNat (Int.tmod (w64 (z0.1.2.2.2 + 1)) ((List.length z0.2.1) : Int)))) (w64 (z3 - 1))) (0 + (Int.toNat (w64 (z0.1.2.2.2 + 1)))) ((List.length z0.2.1) - (Int.toNat (w64 (z0.1.2.2.2 + 1))))))) * 9)) ≤ 140737488355328))
                                (.test (decide (0 ≤ z0.1.2.2.2))
                                 (.test (decide ((0 ≤ (Int.toNat z0.1.2.2.2)) ∧ ((Int.toNat z0.1.2.2.2) ≤ (List.length z0.2.2.1))))
                                  (.test (decide ((0 + ((Int.toNat z0.1.2.2.2) - 0)) ≤ (List.length z0.2.2.1)))
                                   (.sub (s_l1Own (win z0.2.2.1 0 ((Int.toNat z0.1.2.2.2) - 0))) fun z14 =>
                                    (.test (decide (0 ≤ (w64 (z0.1.2.2.2 + 1))))
                                    (.test (decide (((Int.toNat (w64 (z0.1.2.2.2 + 1))) ≤ (List.length z0.2.2.1)) ∧ ((List.length z0.2.2.1) ≤ (List.length z0.2.2.1))))
                                     (.test (decide (((0 + (Int.toNat (w64 (z0.1.2.2.2 + 1)))) + ((List.length z0.2.2.1) - (Int.toNat (w64 (z0.1.2.2.2 + 1))))) ≤ (List.length z0.2.2.1)))
                                      (.test (decide ((0 + (List.length z14.2)) ≤ (List.length z14.2)))
                                       (.test (decide ((2 * (((List.length z14.2) + (List.length (win z0.2.2.1 (0 + (Int.toNat (w64 (z0.1.2.2.2 + 1)))) ((List.length z0.2.2.1) - (Int.toNat (w64 (z0.1.2.2.2 + 1))))))) * 9)) ≤ 140737488355328))
                                        (.test (decide ((0 = 0) ∧ (((List.length z13.2) + (List.length (win (List.set (List.set z0.2.1 (0 + (Int.toNat (Int.tmod (w64 ((w64 (z0.1.2.2.2 + ((List.length z0.2.1) : Int))) - 1)) ((List.length z0.2.1) : Int)))) (w64 (z1 - 1))) (0 + (Int.toNat (Int.tmod (w64 (z0.1.2.2.2 + 1)) ((List.length z0.2.1) : Int)))) (w64 (z3 - 1))) (0 + (Int.toNat (w64 (z0.1.2.2.2 + 1)))) ((List.length z0.2.1) - (Int.toNat (w64 (z0.1.2.2.2 + 1))))))) = (List.length ((win z13.2 0 (List.length z13.2)) ++ (win (List.set (List.set z0.2.1 (0 + (Int.toNat (Int.tmod (w64 ((w64 (z0.1.2.2.2 + ((List.length z0.2.1) : Int))) - 1)) ((List.length z0.2.1) : Int)))) (w64 (z1 - 1))) (0 + (Int.toNat (Int.tmod (w64 (z0.1.2.2.2 + 1)) ((List.length z0.2.1) : Int)))) (w64 (z3 - 1))) (0 + (Int.toNat (w64 (z0.1.2.2.2 + 1)))) ((List.length z0.2.1) - (Int.toNat (w64 (z0.1.2.2.2 + 1))))))))))
                                         (.test (decide ((0 = 0) ∧ (((List.length z14.2) + (List.length (win z0.2.2.1 (0 + (Int.toNat (w64 (z0.1.2.2.2 + 1)))) ((List.length z0.2.2.1) - (Int.toNat (w64 (z0.1.2.2.2 + 1))))))) = (List.length ((win z14.2 0 (List.length z14.2)) ++ (win z0.2.2.1 (0 + (Int.toNat (w64 (z0.1.2.2.2 + 1)))) ((List.length z0.2.2.1) - (Int.toNat (w64 (z0.1.2.2.2 + 1))))))))))
                                          (.test (decide ((0 = 0) ∧ (((List.length z0.2.2.2) + (List.length (win (List.set (List.replicate 1 ((0 : Int), (0 : Int))) 0 (z9, z12)) 0 1))) = (List.length ((win z0.2.2.2 0 (List.length z0.2.2.2)) ++ (win (List.set (List.replicate 1 ((0 : Int), (0 : Int))) 0 (z9, z12)) 0 1))))))
                                           (.ret (Sum.inl (((), ((), ())), (((win z13.2 0 (List.length z13.2)) ++ (win (List.set (List.set z0.2.1 (0 + (Int.toNat (Int.tmod (w64 ((w64 (z0.1.2.2.2 + ((List.length z0.2.1) : Int))) - 1)) ((List.length z0.2.1) : Int)))) (w64 (z1 - 1))) (0 + (Int.toNat (Int.tmod (w64 (z0.1.2.2.2 + 1)) ((List.length z0.2.1) : Int)))) (w64 (z3 - 1))) (0 + (Int.toNat (w64 (z0.1.2.2.2 + 1)))) ((List.length z0.2.1) - (Int.toNat (w64 (z0.1.2.2.2 + 1)))))), (((win z14.2 0 (List.length z14.2)) ++ (win z0.2.2.1 (0 + (Int.toNat (w64 (z0.1.2.2.2 + 1)))) ((List.length z0.2.2.1) - (Int.toNat (w64 (z0.1.2.2.2 + 1)))))), ((win z0.2.2.2 0 (List.length z0.2.2.2)) ++ (win (List.set (List.replicate 1 ((0 : Int), (0 : Int))) 0 (z9, z12)) 0 1)))))))
                                           .fail)
                                          .fail)
                                         .fail)
                                        .fail)
                                       .fail)
                                      .fail)
                                     .fail)
                                    .fail))
                                   .fail)
                                  .fail)
                                 .fail)
                                .fail)
                               .fail)
                              .fail)
                             .fail)
                            .fail))
                           .fail)
                          .fail)
                         .fail)
                        .fail)
                       .fail)
                      .fail)))
                     .fail))
                    .fail)))
                   .fail))
                  .fail)))
                .fail)))
              .fail))
             .fail))
            .fail))
           .fail))
          .fail)
         .fail)
        .fail)))
      .fail)
     .fail)
    .fail)
   .fail)
  (.test (decide ((0 = 0) ∧ ((List.length left) = (List.length left))))
   (.test (decide ((0 = 0) ∧ ((List.length out) = (List.length out))))
    (.ret (Sum.inr (Sum.inr (((), ()), (left, out)))))
    .fail)
   .fail))
noncomputable def s_poOf_L10 (v : ((Unit × Unit × Unit) × (List (Int) × List (Int) × List ((Int × Int))))) : Option (((Unit × Bool) × List ((Int × Int))) ⊕ ((Unit × Unit) × (List (Int) × List ((Int × Int))))) := loopO (fun v => (s_poOf_L10_step v).run) v

def s_poOf_fo : List FO := [⟨[(.one (.rw 0 0)), (.one .sb)], [(.row 0 (.pair (.int .i64) (.int .i64)))]⟩]
noncomputable def s_poOf_t : List (Int) → T ((Unit × Bool) × List ((Int × Int))) := fun quiddity =>
  (.sub (s_poIs ((List.length quiddity) : Int)) fun z0 =>
  (.test (! z0)
  (.test true
   (.ret (((), false), ([] : List (Int × Int))))
   .fail)
  (.sub (s_l1All (quiddity, ((1 : Int), (12 : Int)))) fun z1 =>
   (.test (! z1)
   (.test true
    (.ret (((), false), ([] : List (Int × Int))))
    .fail)
   (.sub (s_l1Own quiddity) fun z2 =>
    (.test (decide ((0 = 0) ∧ ((List.length z2.2) = (List.length z2.2))))
    (.test (decide ((0 = 0) ∧ (0 = (List.length (List.replicate 0 (0 : Int))))))
     (.sub (s_poOf_L5 (((), ((), (((List.length z2.2) : Int), (0 : Int)))), (z2.2, (List.replicate 0 (0 : Int))))) fun z3 =>
      (.test (decide ((0 = 0) ∧ ((List.length z3.2.1) = (List.length z3.2.1))))
      (.test (decide ((0 = 0) ∧ ((List.length z3.2.2) = (List.length z3.2.2))))
       (.test (decide ((0 = 0) ∧ (0 = (List.length ([] : List (Int × Int))))))
        (.sub (s_poOf_L10 (((), ((), ())), (z3.2.1, (z3.2.2, ([] : List (Int × Int)))))) fun z4 =>
         (.test (Sum.isLeft z4)
         (.sub (Sum.getLeft? z4) fun z5 =>
          (.test (decide ((0 = 0) ∧ ((List.length z5.2) = (List.length z5.2))))
          (.ret (((), z5.1.2), z5.2))
          .fail))
         (.sub (Sum.getRight? z4) fun z6 =>
          (.test (decide ((0 + (List.length z6.2.2)) ≤ (List.length z6.2.2)))
          (.sub (s_poSorted (win z6.2.2 0 (List.length z6.2.2))) fun z7 =>
           (.test (decide (((0 : Int) ≤ (0 : Int)) ∧ (0 < ((List.length z6.2.1) : Int))))
           (.sub (z6.2.1[0]?) fun z8 =>
            (.test (z8 == 1)
            (.test (decide (((0 : Int) ≤ (1 : Int)) ∧ (1 < ((List.length z6.2.1) : Int))))
             (.sub (z6.2.1[1]?) fun z9 =>
              (.test (z9 == 1)
              (.test (decide (((0 : Int) ≤ (2 : Int)) ∧ (2 < ((List.length z6.2.1) : Int))))
               (.sub (z6.2.1[2]?) fun z10 =>
                (.test (decide ((0 = 0) ∧ ((List.length z7.2) = (List.length z7.2))))
                (.ret (((), (z10 == 1)), z7.2))
                .fail))
               .fail)
              (.test (decide ((0 = 0) ∧ ((List.length z7.2) = (List.length z7.2))))
               (.ret (((), false), z7.2))
               .fail)))
             .fail)
            (.test (decide ((0 = 0) ∧ ((List.length z7.2) = (List.length z7.2))))
             (.ret (((), false), z7.2))
             .fail)))
           .fail))
          .fail))))
        .fail)
       .fail)
      .fail))
     .fail)
    .fail))))))
noncomputable def s_poOf (v : List (Int)) : Option ((Unit × Bool) × List ((Int × Int))) := (s_poOf_t v).run
noncomputable def s_poOf_E : TEnv := ((((((E0.add1 n_s_poIs s_poIs_sh s_poIs_fo s_poIs).add1 n_s_l1All s_l1All_sh s_l1All_fo s_l1All).add1 n_s_l1Own s_l1Own_sh s_l1Own_fo s_l1Own).add1 n_s_l1Least s_l1Least_sh s_l1Least_fo s_l1Least).add1 n_s_l1Most s_l1Most_sh s_l1Most_fo s_l1Most).add1 n_s_poSorted s_poSorted_sh s_poSorted_fo s_poSorted)
theorem s_poOf_Eok : (s_poOf_E).OK := ((((((E0ok.add1 s_poIs_ok).add1 s_l1All_ok).add1 s_l1Own_ok).add1 s_l1Least_ok).add1 s_l1Most_ok).add1 s_poSorted_ok)
noncomputable def s_poOf_told : Nat → Option SealT := fun id => if id = 5 then some (LSh.told s_poOf_L5_sh 0 (s_poOf_L5_step)) else if id = 13 then some (LSh.told s_poOf_L13_sh 0 (s_poOf_L13_step)) else if id = 10 then some (LSh.told s_poOf_L10_sh 0 (s_poOf_L10_step)) else none
theorem s_poOf_L5_ok : ToldOK Try.prog 0 (loopAt (bodyOf fn_s_poOf) [0]) (LSh.told s_poOf_L5_sh 0 (s_poOf_L5_step)) :=
  loop_ok (E := s_poOf_E) (s_poOf_Eok) (told := s_poOf_told) (l := s_poOf_L5_sh) (step := s_poOf_L5_step) (loopsOK_of (ls := []) (by kernel_rfl) trivial) (by kernel_rfl) (fun v => by kernel_rfl)
theorem s_poOf_L13_ok : ToldOK Try.prog 0 (loopAt (bodyOf fn_s_poOf) [1, 0]) (LSh.told s_poOf_L13_sh 0 (s_poOf_L13_step)) :=
  loop_ok (E := s_poOf_E) (s_poOf_Eok) (told := s_poOf_told) (l := s_poOf_L13_sh) (step := s_poOf_L13_step) (loopsOK_of (ls := []) (by kernel_rfl) trivial) (by kernel_rfl) (fun v => by kernel_rfl)
theorem s_poOf_L10_ok : ToldOK Try.prog 0 (loopAt (bodyOf fn_s_poOf) [1]) (LSh.told s_poOf_L10_sh 0 (s_poOf_L10_step)) :=
  loop_ok (E := s_poOf_E) (s_poOf_Eok) (told := s_poOf_told) (l := s_poOf_L10_sh) (step := s_poOf_L10_step) (loopsOK_of (ls := [loopAt (bodyOf fn_s_poOf) [1, 0]]) (by kernel_rfl) ⟨.inr ⟨_, by kernel_rfl, s_poOf_L13_ok⟩, trivial⟩) (by kernel_rfl) (fun v => by kernel_rfl)
theorem s_poOf_ok : FOK Try.prog n_s_poOf s_poOf_sh s_poOf_fo s_poOf :=
  fn_ok (E := s_poOf_E) (s_poOf_Eok) (told := s_poOf_told) (fl := []) (c := bodyOf fn_s_poOf) (s := s_poOf_sh) (l := s_poOf_fo) (tree := s_poOf_t) fnat_s_poOf (by kernel_rfl) (by kernel_rfl) (by kernel_rfl) (loopsOK_of (ls := [loopAt (bodyOf fn_s_poOf) [0], loopAt (bodyOf fn_s_poOf) [1]]) (by kernel_rfl) ⟨.inr ⟨_, by kernel_rfl, s_poOf_L5_ok⟩, ⟨.inr ⟨_, by kernel_rfl, s_poOf_L10_ok⟩, trivial⟩⟩) (fun v => by kernel_rfl)

theorem s_poOf_names (left : List Int) (hl : left.length < 1000000) : s_poOf_L5 (((), ((), ((left.length : Int), (0 : Int)))), (left, [])) = some (((), ()), (left, nameL left.length)) := by
  have key : ∀ m k, k + m = left.length → s_poOf_L5 (((), ((), ((left.length : Int), (k : Int)))), (left, nameL k)) = some (((), ()), (left, nameL left.length)) := by
    intro m
    induction m with
    | zero =>
      intro k hk
      have : k = left.length := by omega
      subst this
      simp only [s_poOf_L5]
      exact loopO_done (by simp [s_poOf_L5_step, T.run])
    | succ m ih =>
      intro k hk
      have ih := ih (k + 1) (by omega)
      simp only [s_poOf_L5] at ih ⊢
      rw [← ih]
      refine loopO_next ?_
      have c0 : (k : Int) < (left.length : Int) := by omega
      have w1 : w64 ((k : Int) + 1) = ((k + 1 : Nat) : Int) := by rw [w64_id (by omega) (by omega)]; omega
      have hw : win (nameL k) 0 k = nameL k := by have := win_all (nameL k); rwa [nameL_length] at this
      have c1 : 2 * ((k + 1) * 9) ≤ 140737488355328 := by omega
      have hs : nameL k ++ [(k : Int)] = nameL (k + 1) := (nameL_succ k).symm
      simp only [s_poOf_L5_step, T.run, c0, decide_true, if_true, win_one, nameL_length, hw, w1, List.length_cons, List.length_nil, c1, hs, Nat.zero_add]
      simp [c1]
  simpa [nameL] using key left.length 0 (by omega)
theorem s_poOf_first (left corners : List Int) (out : List Dg) (hl : left.length < 1000000) :
    s_poOf_L13 (((), ((), ((), ((-1), ((), ((left.length : Int), (0 : Int))))))), (left, (corners, out))) = some (((), ((), ((), idxI (fun x => (1 : Int) == x) left))), (left, (corners, out))) := by
  have key : ∀ m k (at' : Int), k + m = left.length → (at' < 0 → at' = -1) → s_poOf_L13 (((), ((), ((), (at', ((), ((left.length : Int), (k : Int))))))), (left, (corners, out))) =
      some (((), ((), ((), if at' < 0 then (match (left.drop k).findIdx? (fun x => (1 : Int) == x) with | some i => ((k + i : Nat) : Int) | none => -1) else at'))), (left, (corners, out))) := by
    intro m
    induction m with
    | zero =>
      intro k at' hk ha
      have : k = left.length := by omega
      subst this
      rw [List.drop_length]
      simp only [s_poOf_L13]
      refine loopO_done ?_
      by_cases h : at' < 0
      · have := ha h; subst this; simp [s_poOf_L13_step, T.run]
      · simp [s_poOf_L13_step, T.run, h]
    | succ m ih =>
      intro k at' hk ha
      have hlt : k < left.length := by omega
      have g0 := List.getElem?_eq_getElem hlt
      have c0 : (k : Int) < (left.length : Int) := by omega
      have c1 : (0 : Int) ≤ (k : Int) ∧ (k : Int) < (left.length : Int) := by omega
      have w1 : w64 ((k : Int) + 1) = ((k + 1 : Nat) : Int) := by rw [w64_id (by omega) (by omega)]; omega
      rw [List.drop_eq_getElem_cons hlt, List.findIdx?_cons]
      have st : (s_poOf_L13_step (((), ((), ((), (at', ((), ((left.length : Int), (k : Int))))))), (left, (corners, out)))).run =
          some (.inl (((), ((), ((), ((if (left[k] == 1) = true ∧ at' < 0 then (k : Int) else at'), ((), ((left.length : Int), ((k + 1 : Nat) : Int))))))), (left, (corners, out)))) := by
        simp only [s_poOf_L13_step, T.run, c0, c1, decide_true, if_true, and_self, Int.toNat_natCast, Nat.zero_add, g0, Option.bind_some, w1]
        cases hb : left[k] == 1 <;> by_cases h : at' < 0 <;> simp [h]
      have ih' := ih (k + 1) (if (left[k] == 1) = true ∧ at' < 0 then (k : Int) else at') (by omega) (by split <;> omega)
      simp only [s_poOf_L13] at ih' ⊢
      rw [loopO_next st, ih']
      have hsym : ((1 : Int) == left[k]) = (left[k] == 1) := by rw [beq_int, beq_int]; congr 1; exact propext eq_comm
      rw [hsym]
      cases hb : left[k] == 1 with
      | true =>
        by_cases h : at' < 0
        · have : ¬ ((k : Int) < 0) := by omega
          simp [h, this]
        · simp [h]
      | false =>
        by_cases h : at' < 0
        · simp only [Bool.false_eq_true, false_and, if_false, h, if_true]
          cases (left.drop (k + 1)).findIdx? (fun x => (1 : Int) == x) with
          | none => rfl
          | some i => simp only [Option.map_some]; rw [show k + 1 + i = k + (i + 1) by omega]
        · simp [h]
  have := key left.length 0 (-1) (by omega) (fun _ => rfl)
  rw [Int.natCast_zero, List.drop_zero] at this
  rw [this]
  simp only [idxI]
  simp
  rfl
theorem s_poOf_cut (left names : List Int) (out : List Dg) (k i : Nat) (hk : k < 100000) (hl : left.length = k + 4) (hn : names.length = k + 4) (ho : out.length < 100000) (he : ear left = some i) :
    (s_poOf_L10_step (((), ((), ())), (left, (names, out)))).run = some (if okC left i then .inl (((), ((), ())), (cutL left i, (names.eraseIdx i, out ++ [cutD names i]))) else .inr (.inl (((), false), []))) := by
  obtain ⟨hi, _⟩ := ear_lt he
  obtain ⟨n1, n2, n3, n4, n5, n6⟩ := nb_facts (by omega : 3 ≤ left.length) hi
  obtain ⟨t1, t2⟩ := nb_tmod (by omega : 3 ≤ left.length) (by omega) hi
  have hf := s_poOf_first left names out (by omega)
  have hii : idxI (fun x => (1 : Int) == x) left = (i : Int) := by unfold idxI; unfold ear at he; rw [he]
  rw [hii] at hf
  have c0 : (left.length : Int) > 3 := by omega
  have c1 : ¬ ((i : Int) < 0) := by omega
  have c2 : (left.length : Int) ≠ 0 := by omega
  have c3 : (0 : Int) ≤ (nbB left.length i : Int) ∧ (nbB left.length i : Int) < (left.length : Int) := by omega
  have c4 : (0 : Int) ≤ (nbC left.length i : Int) ∧ (nbC left.length i : Int) < (left.length : Int) := by omega
  have c5 : (0 : Int) ≤ (nbB left.length i : Int) ∧ (nbB left.length i : Int) < (names.length : Int) := by omega
  have c6 : (0 : Int) ≤ (nbC left.length i : Int) ∧ (nbC left.length i : Int) < (names.length : Int) := by omega
  have g1 := set_getD n1
  have g2 : (left.set (nbB left.length i) (w64 (left.getD (nbB left.length i) 0 - 1)))[nbC left.length i]? = some ((decAt left (nbB left.length i)).getD (nbC left.length i) 0) := set_getD (by simpa using n2)
  have g2' : (decAt left (nbB left.length i)).getD (nbC left.length i) 0 = left.getD (nbC left.length i) 0 := by
    unfold decAt
    simp only [List.getD_eq_getElem?_getD]
    rw [List.getElem?_set_ne n5]
  have g3 := set_getD (l := names) (p := nbB left.length i) (by omega)
  have g4 := set_getD (l := names) (p := nbC left.length i) (by omega)
  have w1 : w64 ((i : Int) + 1) = ((i + 1 : Nat) : Int) := by rw [w64_id (by omega) (by omega)]; omega
  rw [w1] at t2
  have hD' : (min (names.getD (nbB left.length i) 0) (names.getD (nbC left.length i) 0), max (names.getD (nbB left.length i) 0) (names.getD (nbC left.length i) 0)) = cutD names i := by unfold cutD; rw [hl, hn]
  have hmin : ∀ a b, s_l1Least (a, b) = some (min a b) := by
    intro a b
    simp only [s_l1Least, s_l1Least_t, T.run]
    by_cases h : a < b <;> simp [h] <;> omega
  have hmax : ∀ a b, s_l1Most (a, b) = some (max a b) := by
    intro a b
    simp only [s_l1Most, s_l1Most_t, T.run]
    by_cases h : a > b <;> simp [h] <;> omega
  have c7 : 2 * ((out.length + 1) * 17) ≤ 140737488355328 := by omega
  have l1 : (decAt (decAt left (nbB left.length i)) (nbC left.length i)).length = left.length := by rw [decAt_length, decAt_length]
  have e1 : left.set (nbB left.length i) (w64 (left.getD (nbB left.length i) 0 - 1)) = decAt left (nbB left.length i) := rfl
  have e2 : (decAt left (nbB left.length i)).set (nbC left.length i) (w64 (left.getD (nbC left.length i) 0 - 1)) = decAt (decAt left (nbB left.length i)) (nbC left.length i) := by unfold decAt; rw [← decAt, g2']
  have g5 : (decAt (decAt left (nbB left.length i)) (nbC left.length i))[nbB left.length i]? = some (w64 (left.getD (nbB left.length i) 0 - 1)) := by
    conv => lhs; unfold decAt
    rw [List.getElem?_set_ne (Ne.symm n5), List.getElem?_set_self n1]
  have g6 : (decAt (decAt left (nbB left.length i)) (nbC left.length i))[nbC left.length i]? = some (w64 (left.getD (nbC left.length i) 0 - 1)) := by
    rw [← e2, List.getElem?_set_self (by rw [decAt_length]; exact n2)]
  rw [e1, g2'] at g2
  have htl : ((decAt (decAt left (nbB left.length i)) (nbC left.length i)).take i).length = i := by rw [List.length_take, l1]; omega
  have htn : (names.take i).length = i := by rw [List.length_take]; omega
  have own1 := s_l1Own_eq ((decAt (decAt left (nbB left.length i)) (nbC left.length i)).take i) (by rw [htl]; omega)
  have own2 := s_l1Own_eq (names.take i) (by rw [htn]; omega)
  have d1 : win (decAt (decAt left (nbB left.length i)) (nbC left.length i)) (i + 1) (left.length - (i + 1)) = (decAt (decAt left (nbB left.length i)) (nbC left.length i)).drop (i + 1) := by
    unfold win; rw [List.take_of_length_le (by rw [List.length_drop, l1]; omega)]
  have d2 : win names (i + 1) (names.length - (i + 1)) = names.drop (i + 1) := by
    unfold win; rw [List.take_of_length_le (by rw [List.length_drop]; omega)]
  have x1 : (decAt (decAt left (nbB left.length i)) (nbC left.length i)).take i ++ (decAt (decAt left (nbB left.length i)) (nbC left.length i)).drop (i + 1) = cutL left i := take_drop_erase _ _
  have x2 : names.take i ++ names.drop (i + 1) = names.eraseIdx i := take_drop_erase _ _
  have f1 : (0 : Int) ≤ (i : Int) := by omega
  have f2 : 0 ≤ i ∧ i ≤ left.length := by omega
  have f3 : i ≤ left.length := by omega
  have f4 : (0 : Int) ≤ ((i + 1 : Nat) : Int) := by omega
  have f5 : i + 1 ≤ left.length ∧ left.length ≤ left.length := by omega
  have f6 : i + 1 + (left.length - (i + 1)) ≤ left.length := by omega
  have f7 : 2 * ((i + (left.length - (i + 1))) * 9) ≤ 140737488355328 := by omega
  have f8 : 0 ≤ i ∧ i ≤ names.length := by omega
  have f9 : i ≤ names.length := by omega
  have f10 : i + 1 ≤ names.length ∧ names.length ≤ names.length := by omega
  have f11 : i + 1 + (names.length - (i + 1)) ≤ names.length := by omega
  have f12 : 2 * ((i + (names.length - (i + 1))) * 9) ≤ 140737488355328 := by omega
  have f13 : i + (left.length - (i + 1)) = (cutL left i).length := by rw [cutL_length hi]; omega
  have f14 : i + (names.length - (i + 1)) = (names.eraseIdx i).length := by rw [List.length_eraseIdx, if_pos (by omega)]; omega
  have x1' := x1
  have x2' := x2
  simp only [s_poOf_L10_step, T.run, c0, decide_true, if_true, Nat.zero_add, Nat.le_refl, hf, Option.bind_some, c1, decide_false, Bool.false_eq_true, if_false, c2, ne_eq, not_false_eq_true, t1, t2, c3, c4, c5, c6, and_self, Int.toNat_natCast, g1, e1, g2, e2, g3, g4, g5, g6, hmin, hmax, hD', win_one, w1, l1, true_and, win_take, Nat.sub_zero, f1, f2, f3, f4, own1, own2, htl, htn, d1, d2]
  have tk : ∀ {X : Type} (l : List X), (l.take i).take i = l.take i := fun l => by rw [List.take_take, Nat.min_self]
  have dl1 : ((decAt (decAt left (nbB left.length i)) (nbC left.length i)).drop (i + 1)).length = left.length - (i + 1) := by rw [List.length_drop, l1]
  have dl2 : (names.drop (i + 1)).length = names.length - (i + 1) := by rw [List.length_drop]
  have t1' : List.take 1 ((List.replicate 1 ((0 : Int), (0 : Int))).set 0 (cutD names i)) = [cutD names i] := rfl
  have t2' : ((List.replicate 1 ((0 : Int), (0 : Int))).set 0 (cutD names i)).length = 1 := rfl
  have f5' : i + 1 ≤ left.length := by omega
  have f7' : 2 * ((cutL left i).length * 9) ≤ 140737488355328 := by rw [← f13]; exact f7
  have f12' : 2 * ((names.eraseIdx i).length * 9) ≤ 140737488355328 := by rw [← f14]; exact f12
  have f10' : i + 1 ≤ names.length := by omega
  simp only [tk, dl1, dl2, t1', t2', List.take_length, x1, x2, f5', f6, f7, f7', f9, f10', f11, f12, f12', f13, f14, and_true, decide_true, if_true, List.length_cons, List.length_nil, Nat.zero_add, c7, List.length_append, Nat.le_refl]
  unfold okC
  by_cases h1 : w64 (left.getD (nbB left.length i) 0 - 1) < 1
  · have h1' : ¬ (1 ≤ w64 (left.getD (nbB left.length i) 0 - 1)) := by omega
    simp only [h1, h1', decide_true, if_true, false_and, decide_false, Bool.false_eq_true, if_false]
  · have h1' : 1 ≤ w64 (left.getD (nbB left.length i) 0 - 1) := by omega
    by_cases h2 : w64 (left.getD (nbC left.length i) 0 - 1) < 1
    · have h2' : ¬ (1 ≤ w64 (left.getD (nbC left.length i) 0 - 1)) := by omega
      simp only [h1, h1', h2, h2', decide_true, if_true, and_false, decide_false, Bool.false_eq_true, if_false]
    · have h2' : 1 ≤ w64 (left.getD (nbC left.length i) 0 - 1) := by omega
      simp only [h1, h1', h2, h2', decide_true, if_true, and_self, decide_false, Bool.false_eq_true, if_false]
theorem s_poOf_cuts : ∀ (k : Nat) (left names : List Int) (out : List Dg), k < 1000 → left.length = k + 3 → names.length = k + 3 → out.length + k < 10000 →
    s_poOf_L10 (((), ((), ())), (left, (names, out))) = some (match triSW k left names with
      | none => .inl (((), false), [])
      | some r => .inr (((), ()), (r.1, out ++ r.2)))
  | 0, left, names, out, hk, hl, hn, ho => by
    simp only [s_poOf_L10, triSW]
    refine loopO_done ?_
    have c0 : ¬ ((left.length : Int) > 3) := by omega
    simp [s_poOf_L10_step, T.run, c0]
  | k + 1, left, names, out, hk, hl, hn, ho => by
    cases he : ear left with
    | none =>
      have hf := s_poOf_first left names out (by omega)
      have hii : idxI (fun x => (1 : Int) == x) left = -1 := by unfold idxI; unfold ear at he; rw [he]
      rw [hii] at hf
      have c0 : (left.length : Int) > 3 := by omega
      simp only [s_poOf_L10, triSW, he]
      refine loopO_done ?_
      simp only [s_poOf_L10_step, T.run, c0, decide_true, if_true, hf, Option.bind_some, true_and]
      simp
    | some i =>
      have st := s_poOf_cut left names out k i (by omega) (by omega) (by omega) (by omega) he
      simp only [s_poOf_L10, triSW, he] at st ⊢
      cases hok : okC left i with
      | false =>
        rw [hok] at st
        rw [loopO_done st]
        rfl
      | true =>
        rw [hok] at st
        have hlc := cutL_length (ear_lt he).1
        have ih := s_poOf_cuts k (cutL left i) (names.eraseIdx i) (out ++ [cutD names i]) (by omega) (by omega) (by rw [List.length_eraseIdx, if_pos (by have := (ear_lt he).1; omega)]; omega) (by simp; omega)
        simp only [s_poOf_L10] at ih
        rw [loopO_next st, ih]
        cases triSW k (cutL left i) (names.eraseIdx i) with
        | none => rfl
        | some r => simp
theorem s_poOf_eq (l : List Int) (hl : l.length < 4611686018427387904) : ∃ r, r.length ≤ 9 ∧ s_poOf l = some (match trOf l with | some ds => (((), true), ds) | none => (((), false), r)) ∧ ((trOf l).isSome → ∀ ds, trOf l = some ds → ds.length ≤ 9) := by
  have hdl : ∀ ds, trOf l = some ds → ds.length ≤ 9 := by
    intro ds h
    unfold trOf at h
    split at h
    · rename_i hn
      rw [inB_iff] at hn
      split at h
      · rename_i es hT
        split at h
        · cases h
          rw [sortD_length, (tri_good _ _ _ _ (nameL_sorted _) (by omega) (by rw [nameL_length]; omega) hT).1]
          omega
        · cases h
      · cases h
    · cases h
  simp only [s_poOf, s_poOf_t, T.run, s_poIs, s_poIs_t, s_l1In_eq, Option.bind_some]
  cases hn : inB 3 12 (l.length : Int) with
  | false => exact ⟨[], by simp, by simp [trOf, hn], fun _ => hdl⟩
  | true =>
    have hn' := inB_iff.1 hn
    rw [s_l1All_eq l 1 12 hl]
    cases ha : l.all (inB 1 12) with
    | false => exact ⟨[], by simp, by simp [trOf_bad l ha], fun _ => hdl⟩
    | true =>
      have hown := s_l1Own_eq l (by omega)
      have h5 := s_poOf_names l (by omega)
      have h10 := s_poOf_cuts (l.length - 3) l (nameL l.length) [] (by omega) (by omega) (by rw [nameL_length]; omega) (by simp; omega)
      have htri := triS_W (l.length - 3) l (nameL l.length)
      have hsp := trOf_spec l ha hn
      simp only [Bool.not_true, Bool.false_eq_true, if_false, Option.bind_some, hown, List.replicate_zero, List.length_nil, true_and, decide_true, if_true, h5, h10]
      cases hW : triSW (l.length - 3) l (nameL l.length) with
      | none =>
        rw [htri, hW] at hsp
        exact ⟨[], by simp, by rw [← hsp]; simp, fun _ => hdl⟩
      | some r =>
        obtain ⟨l3, ds⟩ := r
        obtain ⟨g1, g2⟩ := triSW_len _ _ _ _ (by omega) hW
        simp only at g1 g2
        rw [htri, hW] at hsp
        have hs := s_poSorted_eq ds (by omega)
        have hls := sortD_length ds
        match l3, g1 with
        | [a, b, c], _ =>
          refine ⟨sortD ds, by omega, ?_, fun _ => hdl⟩
          rw [← hsp]
          simp only [Sum.isLeft, Sum.getRight?, Option.bind_some, Bool.false_eq_true, if_false, List.nil_append, Nat.zero_add, Nat.le_refl, decide_true, if_true, win_all, hs]
          by_cases ea : a = 1 <;> by_cases eb : b = 1 <;> by_cases ec : c = 1 <;> simp [ea, eb, ec]


def s_IsQuiddity_sh : FSh := ⟨[(.one (.sl (.int .i64) false false))], []⟩

def s_IsQuiddity_fo : List FO := [⟨[(.one .sb)], []⟩]
noncomputable def s_IsQuiddity_t : List (Int) → T Bool := fun quiddity =>
  (.sub (s_poOf quiddity) fun z0 =>
  (.ret z0.1.2))
noncomputable def s_IsQuiddity (v : List (Int)) : Option Bool := (s_IsQuiddity_t v).run
noncomputable def s_IsQuiddity_E : TEnv := (E0.add1 n_s_poOf s_poOf_sh s_poOf_fo s_poOf)
theorem s_IsQuiddity_Eok : (s_IsQuiddity_E).OK := (E0ok.add1 s_poOf_ok)
noncomputable def s_IsQuiddity_told : Nat → Option SealT := fun id => none
theorem s_IsQuiddity_ok : FOK Try.prog n_s_IsQuiddity s_IsQuiddity_sh s_IsQuiddity_fo s_IsQuiddity :=
  fn_ok (E := s_IsQuiddity_E) (s_IsQuiddity_Eok) (told := s_IsQuiddity_told) (fl := []) (c := bodyOf fn_s_IsQuiddity) (s := s_IsQuiddity_sh) (l := s_IsQuiddity_fo) (tree := s_IsQuiddity_t) fnat_s_IsQuiddity (by kernel_rfl) (by kernel_rfl) (by kernel_rfl) (loopsOK_of (ls := []) (by kernel_rfl) trivial) (fun v => by kernel_rfl)

theorem s_IsQuiddity_eq (l : List Int) (hl : l.length < 4611686018427387904) : s_IsQuiddity l = some (trOf l).isSome := by
  obtain ⟨r, _, h, _⟩ := s_poOf_eq l hl
  simp only [s_IsQuiddity, s_IsQuiddity_t, T.run, h, Option.bind_some]
  cases trOf l <;> rfl


def s_pzFits_sh : FSh := ⟨[(.ag [(.sl (.int .i64) false false)]), (.one (.sl (.int .i64) false false))], []⟩

def s_pzFits_L4_sh : LSh := ⟨(fun ex => match ex with | .norm => [(1, none), (14, none), (15, none), (16, none)] | .exit i => if i = 0 then [] else [] | .ret => [(4, none)]), [(1, (.one (.sl (.int .i64) false false))), (14, (.one (.sl (.int .i64) false false))), (15, (.one (.si .i64))), (16, (.one (.si .i64)))], [], [⟨.ret, [(4, (.one .sb))], []⟩, ⟨(.exit 0), [], []⟩], [], []⟩
noncomputable def s_pzFits_L4_step : (List (Int) × List (Int) × Int × Int) → T ((List (Int) × List (Int) × Int × Int) ⊕ (Bool ⊕ Unit)) := fun (quiddity, t14, t15, t16) =>
  (.test (decide (t16 < t15))
  (.test (decide ((0 ≤ t16) ∧ (t16 < ((List.length t14) : Int))))
   (.sub (t14[(Int.toNat t16)]?) fun z0 =>
    (.test (z0 != 0)
    (.test (decide ((0 ≤ t16) ∧ (t16 < ((List.length quiddity) : Int))))
     (.sub (quiddity[(Int.toNat t16)]?) fun z1 =>
      (.test (z0 != z1)
      (.ret (Sum.inr (Sum.inl false)))
      (.ret (Sum.inl (quiddity, (t14, (t15, (w64 (t16 + 1)))))))))
     .fail)
    (.ret (Sum.inl (quiddity, (t14, (t15, (w64 (t16 + 1)))))))))
   .fail)
  (.ret (Sum.inr (Sum.inr ()))))
noncomputable def s_pzFits_L4 (v : (List (Int) × List (Int) × Int × Int)) : Option (Bool ⊕ Unit) := loopO (fun v => (s_pzFits_L4_step v).run) v

def s_pzFits_fo : List FO := [⟨[(.one .sb)], []⟩]
noncomputable def s_pzFits_t : (List (Int) × List (Int)) → T Bool := fun (p_0, quiddity) =>
  (.test (((List.length quiddity) : Int) != ((List.length p_0) : Int))
  (.ret false)
  (.sub (s_pzFits_L4 (quiddity, (p_0, (((List.length p_0) : Int), (0 : Int))))) fun z0 =>
   (.test (Sum.isLeft z0)
   (.sub (Sum.getLeft? z0) fun z1 =>
    (.ret z1))
   (.sub (Sum.getRight? z0) fun z2 =>
    (.ret true)))))
noncomputable def s_pzFits (v : (List (Int) × List (Int))) : Option Bool := (s_pzFits_t v).run
noncomputable def s_pzFits_E : TEnv := E0
theorem s_pzFits_Eok : (s_pzFits_E).OK := E0ok
noncomputable def s_pzFits_told : Nat → Option SealT := fun id => if id = 4 then some (LSh.told s_pzFits_L4_sh 0 (s_pzFits_L4_step)) else none
theorem s_pzFits_L4_ok : ToldOK Try.prog 0 (loopAt (bodyOf fn_s_pzFits) [0]) (LSh.told s_pzFits_L4_sh 0 (s_pzFits_L4_step)) :=
  loop_ok (E := s_pzFits_E) (s_pzFits_Eok) (told := s_pzFits_told) (l := s_pzFits_L4_sh) (step := s_pzFits_L4_step) (loopsOK_of (ls := []) (by kernel_rfl) trivial) (by kernel_rfl) (fun v => by kernel_rfl)
theorem s_pzFits_ok : FOK Try.prog n_s_pzFits s_pzFits_sh s_pzFits_fo s_pzFits :=
  fn_ok (E := s_pzFits_E) (s_pzFits_Eok) (told := s_pzFits_told) (fl := []) (c := bodyOf fn_s_pzFits) (s := s_pzFits_sh) (l := s_pzFits_fo) (tree := s_pzFits_t) fnat_s_pzFits (by kernel_rfl) (by kernel_rfl) (by kernel_rfl) (loopsOK_of (ls := [loopAt (bodyOf fn_s_pzFits) [0]]) (by kernel_rfl) ⟨.inr ⟨_, by kernel_rfl, s_pzFits_L4_ok⟩, trivial⟩) (fun v => by kernel_rfl)

theorem s_pzFits_eq (p q : List Int) (hl : p.length < 4611686018427387904) : s_pzFits (p, q) = some (fits p q) := by
  simp only [s_pzFits, s_pzFits_t, T.run, fits]
  by_cases he : p.length = q.length
  · have h := loop_any (step := fun v => (s_pzFits_L4_step v).run) (xs := p.zip q) (fun x => !(x.1 == 0 || x.1 == x.2)) (fun k => (q, (p, ((p.length : Int), (k : Int))))) (.inl false) (.inr ())
      (fun k x hx => by
        obtain ⟨x1, x2⟩ := x
        rw [List.getElem?_zip_eq_some] at hx
        obtain ⟨h1, h2⟩ := hx
        simp only at h1 h2
        have hk := getElem?_lt h1
        have hk2 := getElem?_lt h2
        have c0 : (k : Int) < (p.length : Int) := by omega
        have c1 : (0 : Int) ≤ (k : Int) ∧ (k : Int) < (p.length : Int) := by omega
        have c2 : (0 : Int) ≤ (k : Int) ∧ (k : Int) < (q.length : Int) := by omega
        have w1 : w64 ((k : Int) + 1) = ((k + 1 : Nat) : Int) := by rw [w64_id (by omega) (by omega)]; omega
        simp only [s_pzFits_L4_step, T.run, c0, c1, c2, decide_true, if_true, and_self, Int.toNat_natCast, h1, h2, Option.bind_some, w1]
        by_cases e0 : x1 = 0 <;> by_cases e1 : x1 = x2 <;> simp [e0, e1])
      (by simp [s_pzFits_L4_step, T.run, he])
    simp only [Int.natCast_zero] at h
    have hne : ((q.length : Int) != (p.length : Int)) = false := by simp [he]
    simp only [s_pzFits_L4, h, hne, decide_eq_true he]
    cases (p.zip q).any (fun x => !(x.1 == 0 || x.1 == x.2)) <;> simp
  · have hne : ((q.length : Int) != (p.length : Int)) = true := by simp; omega
    simp [hne, he]


def s_IsSolution_sh : FSh := ⟨[(.ag [(.sl (.int .i64) false false)]), (.one (.sl (.int .i64) false false))], []⟩

def s_IsSolution_fo : List FO := [⟨[(.one .sb), (.one .sb)], []⟩]
noncomputable def s_IsSolution_t : (List (Int) × List (Int)) → T (Bool × Bool) := fun (p_0, quiddity) =>
  (.sub (s_pzGood p_0) fun z0 =>
  (.test (! z0)
  (.ret (false, false))
  (.sub (s_IsQuiddity quiddity) fun z1 =>
   (.test (! z1)
   (.ret (false, false))
   (.sub (s_pzFits (p_0, quiddity)) fun z2 =>
    (.ret (z2, true)))))))
noncomputable def s_IsSolution (v : (List (Int) × List (Int))) : Option (Bool × Bool) := (s_IsSolution_t v).run
noncomputable def s_IsSolution_E : TEnv := (((E0.add1 n_s_pzGood s_pzGood_sh s_pzGood_fo s_pzGood).add1 n_s_IsQuiddity s_IsQuiddity_sh s_IsQuiddity_fo s_IsQuiddity).add1 n_s_pzFits s_pzFits_sh s_pzFits_fo s_pzFits)
theorem s_IsSolution_Eok : (s_IsSolution_E).OK := (((E0ok.add1 s_pzGood_ok).add1 s_IsQuiddity_ok).add1 s_pzFits_ok)
noncomputable def s_IsSolution_told : Nat → Option SealT := fun id => none
theorem s_IsSolution_ok : FOK Try.prog n_s_IsSolution s_IsSolution_sh s_IsSolution_fo s_IsSolution :=
  fn_ok (E := s_IsSolution_E) (s_IsSolution_Eok) (told := s_IsSolution_told) (fl := []) (c := bodyOf fn_s_IsSolution) (s := s_IsSolution_sh) (l := s_IsSolution_fo) (tree := s_IsSolution_t) fnat_s_IsSolution (by kernel_rfl) (by kernel_rfl) (by kernel_rfl) (loopsOK_of (ls := []) (by kernel_rfl) trivial) (fun v => by kernel_rfl)

theorem s_IsSolution_eq (p q : List Int) (hl : p.length < 4611686018427387904) (hq : q.length < 4611686018427387904) : s_IsSolution (p, q) = some (if isPz p && (trOf q).isSome then (fits p q, true) else (false, false)) := by
  simp only [s_IsSolution, s_IsSolution_t, T.run, s_pzGood_eq p hl, s_IsQuiddity_eq q hq, Option.bind_some, s_pzFits_eq p q hl]
  cases isPz p <;> cases (trOf q).isSome <;> simp


def i_within_sh : FSh := ⟨[(.one (.si .i64)), (.one (.si .i64)), (.one (.si .i64))], []⟩

def i_within_fo : List FO := [⟨[(.one .sb)], []⟩]
noncomputable def i_within_t : (Int × Int × Int) → T Bool := fun (n, low, high) =>
  (.test (decide (n ≥ low))
  (.ret (decide (n ≤ high)))
  (.ret false))
noncomputable def i_within (v : (Int × Int × Int)) : Option Bool := (i_within_t v).run
noncomputable def i_within_E : TEnv := E0
theorem i_within_Eok : (i_within_E).OK := E0ok
noncomputable def i_within_told : Nat → Option SealT := fun id => none
theorem i_within_ok : FOK Try.prog n_i_within i_within_sh i_within_fo i_within :=
  fn_ok (E := i_within_E) (i_within_Eok) (told := i_within_told) (fl := []) (c := bodyOf fn_i_within) (s := i_within_sh) (l := i_within_fo) (tree := i_within_t) fnat_i_within (by kernel_rfl) (by kernel_rfl) (by kernel_rfl) (loopsOK_of (ls := []) (by kernel_rfl) trivial) (fun v => by kernel_rfl)

theorem i_within_eq (n low high : Int) : i_within (n, low, high) = some (inB low high n) := by
  simp only [i_within, i_within_t, T.run, ge_iff_le, decide_eq_true_eq, inB]
  by_cases h : low ≤ n <;> simp [h]


def i_IsPuzzle_1_sh : FSh := ⟨[(.one (.si .i64)), (.one (.pf 0 0 0))], [(.rcd 0 [(.si .i64)])]⟩

def i_IsPuzzle_1_fo : List FO := [⟨[(.one .sb)], [(.rcd 0 [(.si .i64)])]⟩]
noncomputable def i_IsPuzzle_1_t : ((Int × Unit) × Int) → T (Bool × Int) := fun ((k, ()), t1_0) =>
  (.sub (i_within (k, ((0 : Int), (w64 (t1_0 - 2))))) fun z0 =>
  (.ret ((! z0), t1_0)))
noncomputable def i_IsPuzzle_1 (v : ((Int × Unit) × Int)) : Option (Bool × Int) := (i_IsPuzzle_1_t v).run
noncomputable def i_IsPuzzle_1_E : TEnv := (E0.add1 n_i_within i_within_sh i_within_fo i_within)
theorem i_IsPuzzle_1_Eok : (i_IsPuzzle_1_E).OK := (E0ok.add1 i_within_ok)
noncomputable def i_IsPuzzle_1_told : Nat → Option SealT := fun id => none
theorem i_IsPuzzle_1_ok : FOK Try.prog n_i_IsPuzzle_1 i_IsPuzzle_1_sh i_IsPuzzle_1_fo i_IsPuzzle_1 :=
  fn_ok (E := i_IsPuzzle_1_E) (i_IsPuzzle_1_Eok) (told := i_IsPuzzle_1_told) (fl := []) (c := bodyOf fn_i_IsPuzzle_1) (s := i_IsPuzzle_1_sh) (l := i_IsPuzzle_1_fo) (tree := i_IsPuzzle_1_t) fnat_i_IsPuzzle_1 (by kernel_rfl) (by kernel_rfl) (by kernel_rfl) (loopsOK_of (ls := []) (by kernel_rfl) trivial) (fun v => by kernel_rfl)

theorem i_IsPuzzle_1_eq (k c : Int) (h : 0 ≤ c) (h2 : c < 4611686018427387904) : i_IsPuzzle_1 ((k, ()), c) = some (!inB 0 (c - 2) k, c) := by
  simp only [i_IsPuzzle_1, i_IsPuzzle_1_t, T.run, i_within_eq, Option.bind_some]
  rw [w64_id (by omega) (by omega)]


def slices_IndexFunc_int__i_IsPuzzle_1_sh : FSh := ⟨[(.one (.sl (.int .i64) false false)), (.clo n_i_IsPuzzle_1 [(.one (.pf 0 0 0))])], [(.rcd 0 [(.si .i64)])]⟩

def slices_IndexFunc_int__i_IsPuzzle_1_L2_sh : LSh := ⟨(fun ex => match ex with | .norm => [(0, none), (1, none), (7, none), (8, none)] | .exit i => if i = 0 then [] else [] | .ret => [(4, none)]), [(0, (.one (.sl (.int .i64) false false))), (1, (.clo n_i_IsPuzzle_1 [(.one (.pf 0 0 0))])), (7, (.one (.si .i64))), (8, (.one (.si .i64)))], [(.rcd 0 [(.si .i64)])], [⟨.ret, [(4, (.one (.si .i64)))], [(.rcd 0 [(.si .i64)])]⟩, ⟨(.exit 0), [], [(.rcd 0 [(.si .i64)])]⟩], [], []⟩
noncomputable def slices_IndexFunc_int__i_IsPuzzle_1_L2_step : ((List (Int) × Unit × Int × Int) × Int) → T (((List (Int) × Unit × Int × Int) × Int) ⊕ ((Int × Int) ⊕ (Unit × Int))) := fun ((s, (), t7, t8), r0_0) =>
  (.test (decide (t8 < t7))
  (.test (decide ((0 ≤ t8) ∧ (t8 < ((List.length s) : Int))))
   (.sub (s[(Int.toNat t8)]?) fun z0 =>
    (.sub (i_IsPuzzle_1 ((z0, ()), r0_0)) fun z1 =>
    (.test z1.1
    (.ret (Sum.inr (Sum.inl (t8, z1.2))))
    (.ret (Sum.inl ((s, ((), (t7, (w64 (t8 + 1))))), z1.2))))))
   .fail)
  (.ret (Sum.inr (Sum.inr ((), r0_0)))))
noncomputable def slices_IndexFunc_int__i_IsPuzzle_1_L2 (v : ((List (Int) × Unit × Int × Int) × Int)) : Option ((Int × Int) ⊕ (Unit × Int)) := loopO (fun v => (slices_IndexFunc_int__i_IsPuzzle_1_L2_step v).run) v

def slices_IndexFunc_int__i_IsPuzzle_1_fo : List FO := [⟨[(.one (.si .i64))], [(.rcd 0 [(.si .i64)])]⟩]
noncomputable def slices_IndexFunc_int__i_IsPuzzle_1_t : ((List (Int) × Unit) × Int) → T (Int × Int) := fun ((s, ()), r0_0) =>
  (.sub (slices_IndexFunc_int__i_IsPuzzle_1_L2 ((s, ((), (((List.length s) : Int), (0 : Int)))), r0_0)) fun z0 =>
  (.test (Sum.isLeft z0)
  (.sub (Sum.getLeft? z0) fun z1 =>
   (.ret (z1.1, z1.2)))
  (.sub (Sum.getRight? z0) fun z2 =>
   (.ret ((-1), z2.2)))))
noncomputable def slices_IndexFunc_int__i_IsPuzzle_1 (v : ((List (Int) × Unit) × Int)) : Option (Int × Int) := (slices_IndexFunc_int__i_IsPuzzle_1_t v).run
noncomputable def slices_IndexFunc_int__i_IsPuzzle_1_E : TEnv := (E0.add1 n_i_IsPuzzle_1 i_IsPuzzle_1_sh i_IsPuzzle_1_fo i_IsPuzzle_1)
theorem slices_IndexFunc_int__i_IsPuzzle_1_Eok : (slices_IndexFunc_int__i_IsPuzzle_1_E).OK := (E0ok.add1 i_IsPuzzle_1_ok)
noncomputable def slices_IndexFunc_int__i_IsPuzzle_1_told : Nat → Option SealT := fun id => if id = 2 then some (LSh.told slices_IndexFunc_int__i_IsPuzzle_1_L2_sh 1 (slices_IndexFunc_int__i_IsPuzzle_1_L2_step)) else none
theorem slices_IndexFunc_int__i_IsPuzzle_1_L2_ok : ToldOK Try.prog 1 (loopAt (bodyOf fn_slices_IndexFunc_int) [0]) (LSh.told slices_IndexFunc_int__i_IsPuzzle_1_L2_sh 1 (slices_IndexFunc_int__i_IsPuzzle_1_L2_step)) :=
  loop_ok (E := slices_IndexFunc_int__i_IsPuzzle_1_E) (slices_IndexFunc_int__i_IsPuzzle_1_Eok) (told := slices_IndexFunc_int__i_IsPuzzle_1_told) (l := slices_IndexFunc_int__i_IsPuzzle_1_L2_sh) (step := slices_IndexFunc_int__i_IsPuzzle_1_L2_step) (loopsOK_of (ls := []) (by kernel_rfl) trivial) (by kernel_rfl) (fun v => by kernel_rfl)
theorem slices_IndexFunc_int__i_IsPuzzle_1_ok : FOK Try.prog n_slices_IndexFunc_int slices_IndexFunc_int__i_IsPuzzle_1_sh slices_IndexFunc_int__i_IsPuzzle_1_fo slices_IndexFunc_int__i_IsPuzzle_1 :=
  fn_ok (E := slices_IndexFunc_int__i_IsPuzzle_1_E) (slices_IndexFunc_int__i_IsPuzzle_1_Eok) (told := slices_IndexFunc_int__i_IsPuzzle_1_told) (fl := []) (c := bodyOf fn_slices_IndexFunc_int) (s := slices_IndexFunc_int__i_IsPuzzle_1_sh) (l := slices_IndexFunc_int__i_IsPuzzle_1_fo) (tree := slices_IndexFunc_int__i_IsPuzzle_1_t) fnat_slices_IndexFunc_int (by kernel_rfl) (by kernel_rfl) (by kernel_rfl) (loopsOK_of (ls := [loopAt (bodyOf fn_slices_IndexFunc_int) [0]]) (by kernel_rfl) ⟨.inr ⟨_, by kernel_rfl, slices_IndexFunc_int__i_IsPuzzle_1_L2_ok⟩, trivial⟩) (fun v => by kernel_rfl)

theorem slices_IndexFunc_int__i_IsPuzzle_1_eq (l : List Int) (c : Int) (hl : l.length < 4611686018427387904) (h : 0 ≤ c) (h2 : c < 4611686018427387904) : slices_IndexFunc_int__i_IsPuzzle_1 ((l, ()), c) = some (idxI (fun k => !inB 0 (c - 2) k) l, c) := by
  have h := loop_find (step := fun v => (slices_IndexFunc_int__i_IsPuzzle_1_L2_step v).run) (xs := l) (fun k => !inB 0 (c - 2) k) (fun k => ((l, (), (l.length : Int), (k : Int)), c)) (fun k => .inl ((k : Int), c)) (.inr ((), c))
    (fun k x hx => by
      have hk := getElem?_lt hx
      simp only [slices_IndexFunc_int__i_IsPuzzle_1_L2_step, T.run, i_IsPuzzle_1_eq _ _ h h2, Option.bind_some, Int.toNat_natCast, hx]
      rw [w64_id (by omega) (by omega)]
      cases inB 0 (c - 2) x <;> simp [hk])
    (by simp [slices_IndexFunc_int__i_IsPuzzle_1_L2_step, T.run])
  simp only [slices_IndexFunc_int__i_IsPuzzle_1, slices_IndexFunc_int__i_IsPuzzle_1_t, T.run, slices_IndexFunc_int__i_IsPuzzle_1_L2]
  simp only [Int.natCast_zero] at h
  rw [h, idxI]
  cases l.findIdx? (fun k => !inB 0 (c - 2) k) <;> simp


def slices_ContainsFunc_int__i_IsPuzzle_1_sh : FSh := ⟨[(.one (.sl (.int .i64) false false)), (.clo n_i_IsPuzzle_1 [(.one (.pf 0 0 0))])], [(.rcd 0 [(.si .i64)])]⟩

def slices_ContainsFunc_int__i_IsPuzzle_1_fo : List FO := [⟨[(.one .sb)], [(.rcd 0 [(.si .i64)])]⟩]
noncomputable def slices_ContainsFunc_int__i_IsPuzzle_1_t : ((List (Int) × Unit) × Int) → T (Bool × Int) := fun ((s, ()), r0_0) =>
  (.sub (slices_IndexFunc_int__i_IsPuzzle_1 ((s, ()), r0_0)) fun z0 =>
  (.ret ((decide (z0.1 ≥ 0)), z0.2)))
noncomputable def slices_ContainsFunc_int__i_IsPuzzle_1 (v : ((List (Int) × Unit) × Int)) : Option (Bool × Int) := (slices_ContainsFunc_int__i_IsPuzzle_1_t v).run
noncomputable def slices_ContainsFunc_int__i_IsPuzzle_1_E : TEnv := (E0.add1 n_slices_IndexFunc_int slices_IndexFunc_int__i_IsPuzzle_1_sh slices_IndexFunc_int__i_IsPuzzle_1_fo slices_IndexFunc_int__i_IsPuzzle_1)
theorem slices_ContainsFunc_int__i_IsPuzzle_1_Eok : (slices_ContainsFunc_int__i_IsPuzzle_1_E).OK := (E0ok.add1 slices_IndexFunc_int__i_IsPuzzle_1_ok)
noncomputable def slices_ContainsFunc_int__i_IsPuzzle_1_told : Nat → Option SealT := fun id => none
theorem slices_ContainsFunc_int__i_IsPuzzle_1_ok : FOK Try.prog n_slices_ContainsFunc_int slices_ContainsFunc_int__i_IsPuzzle_1_sh slices_ContainsFunc_int__i_IsPuzzle_1_fo slices_ContainsFunc_int__i_IsPuzzle_1 :=
  fn_ok (E := slices_ContainsFunc_int__i_IsPuzzle_1_E) (slices_ContainsFunc_int__i_IsPuzzle_1_Eok) (told := slices_ContainsFunc_int__i_IsPuzzle_1_told) (fl := []) (c := bodyOf fn_slices_ContainsFunc_int) (s := slices_ContainsFunc_int__i_IsPuzzle_1_sh) (l := slices_ContainsFunc_int__i_IsPuzzle_1_fo) (tree := slices_ContainsFunc_int__i_IsPuzzle_1_t) fnat_slices_ContainsFunc_int (by kernel_rfl) (by kernel_rfl) (by kernel_rfl) (loopsOK_of (ls := []) (by kernel_rfl) trivial) (fun v => by kernel_rfl)

theorem slices_ContainsFunc_int__i_IsPuzzle_1_eq (l : List Int) (c : Int) (hl : l.length < 4611686018427387904) (h : 0 ≤ c) (h2 : c < 4611686018427387904) : slices_ContainsFunc_int__i_IsPuzzle_1 ((l, ()), c) = some (l.any (fun k => !inB 0 (c - 2) k), c) := by
  simp only [slices_ContainsFunc_int__i_IsPuzzle_1, slices_ContainsFunc_int__i_IsPuzzle_1_t, T.run, slices_IndexFunc_int__i_IsPuzzle_1_eq _ _ hl h h2, Option.bind_some, idxI_ge]


def i_IsPuzzle_sh : FSh := ⟨[(.ag [(.sl (.int .i64) false false)])], []⟩

def i_IsPuzzle_fo : List FO := [⟨[(.one .sb)], []⟩]
noncomputable def i_IsPuzzle_t : List (Int) → T Bool := fun p_0 =>
  (.sub (i_within (((List.length p_0) : Int), ((3 : Int), (9 : Int)))) fun z0 =>
  (.test z0
  (.sub (slices_ContainsFunc_int__i_IsPuzzle_1 ((p_0, ()), ((List.length p_0) : Int))) fun z1 =>
   (.ret (! z1.1)))
  (.ret false)))
noncomputable def i_IsPuzzle (v : List (Int)) : Option Bool := (i_IsPuzzle_t v).run
noncomputable def i_IsPuzzle_E : TEnv := ((E0.add1 n_i_within i_within_sh i_within_fo i_within).add1 n_slices_ContainsFunc_int slices_ContainsFunc_int__i_IsPuzzle_1_sh slices_ContainsFunc_int__i_IsPuzzle_1_fo slices_ContainsFunc_int__i_IsPuzzle_1)
theorem i_IsPuzzle_Eok : (i_IsPuzzle_E).OK := ((E0ok.add1 i_within_ok).add1 slices_ContainsFunc_int__i_IsPuzzle_1_ok)
noncomputable def i_IsPuzzle_told : Nat → Option SealT := fun id => none
theorem i_IsPuzzle_ok : FOK Try.prog n_i_IsPuzzle i_IsPuzzle_sh i_IsPuzzle_fo i_IsPuzzle :=
  fn_ok (E := i_IsPuzzle_E) (i_IsPuzzle_Eok) (told := i_IsPuzzle_told) (fl := []) (c := bodyOf fn_i_IsPuzzle) (s := i_IsPuzzle_sh) (l := i_IsPuzzle_fo) (tree := i_IsPuzzle_t) fnat_i_IsPuzzle (by kernel_rfl) (by kernel_rfl) (by kernel_rfl) (loopsOK_of (ls := []) (by kernel_rfl) trivial) (fun v => by kernel_rfl)

theorem i_IsPuzzle_eq (l : List Int) (hl : l.length < 4611686018427387904) : i_IsPuzzle l = some (isPz l) := by
  simp only [i_IsPuzzle, i_IsPuzzle_t, T.run, i_within_eq, Option.bind_some, slices_ContainsFunc_int__i_IsPuzzle_1_eq l l.length hl (by omega) (by omega), all_any, isPz]
  cases inB 3 9 l.length <;> simp


def i_isPolygon_sh : FSh := ⟨[(.one (.si .i64))], []⟩

def i_isPolygon_fo : List FO := [⟨[(.one .sb)], []⟩]
noncomputable def i_isPolygon_t : Int → T Bool := fun n =>
  (.sub (i_within (n, ((3 : Int), (12 : Int)))) fun z0 =>
  (.ret z0))
noncomputable def i_isPolygon (v : Int) : Option Bool := (i_isPolygon_t v).run
noncomputable def i_isPolygon_E : TEnv := (E0.add1 n_i_within i_within_sh i_within_fo i_within)
theorem i_isPolygon_Eok : (i_isPolygon_E).OK := (E0ok.add1 i_within_ok)
noncomputable def i_isPolygon_told : Nat → Option SealT := fun id => none
theorem i_isPolygon_ok : FOK Try.prog n_i_isPolygon i_isPolygon_sh i_isPolygon_fo i_isPolygon :=
  fn_ok (E := i_isPolygon_E) (i_isPolygon_Eok) (told := i_isPolygon_told) (fl := []) (c := bodyOf fn_i_isPolygon) (s := i_isPolygon_sh) (l := i_isPolygon_fo) (tree := i_isPolygon_t) fnat_i_isPolygon (by kernel_rfl) (by kernel_rfl) (by kernel_rfl) (loopsOK_of (ls := []) (by kernel_rfl) trivial) (fun v => by kernel_rfl)

def slices_Clone_int_sh : FSh := ⟨[.one (.sl (.int .i64) false false)], []⟩
def slices_Clone_int_fo : List FO := [⟨[.one (.rw 0 0)], [.row 0 (.int .i64)]⟩]
def slices_Clone_int (v : List Int) : Option (Unit × List Int) := if v.length ≤ maxLen ∧ v.length * 8 ≤ 140737488355328 then some ((), v) else none
def slices_Clone_int_ren : Shelf.Ren := ⟨fun _ => n_slices_Clone_int, fun t => if t = 4 then 4 else if t = 22 then 22 else 3, fun x => x⟩
theorem slices_Clone_int_lay : SlLaysE0.n41 Try.prog slices_Clone_int_ren :=
  { mixed := by kernel_rfl, f41 := ⟨"slices.Clone[[]int,int]", by kernel_rfl, by kernel_rfl⟩, t4 := by kernel_rfl, a4 := fun w => by kernel_rfl, z4 := fun w => by kernel_rfl, v4 := fun w => by kernel_rfl, t22 := by kernel_rfl, a22 := fun w => by kernel_rfl, z22 := fun w => by kernel_rfl, v22 := fun w => by kernel_rfl }
noncomputable def slices_Clone_int_info : TypeInfo := (Try.prog.info? 3).get (by kernel_rfl)
theorem slices_Clone_int_ok : FOK Try.prog n_slices_Clone_int slices_Clone_int_sh slices_Clone_int_fo slices_Clone_int :=
  clone_ok (e := .int .i64) ⟨_, fnat_slices_Clone_int, by kernel_rfl, by kernel_rfl⟩ (ρr := slices_Clone_int_ren) rfl slices_Clone_int_lay rfl slices_Clone_int_info (.int .i64 0) 8 (by kernel_rfl) (by kernel_rfl) (by kernel_rfl) (by kernel_rfl) (by decide) (by decide) (fun w => by kernel_rfl)

def slices_Index_int_sh : FSh := ⟨[(.one (.sl (.int .i64) false false)), (.one (.si .i64))], []⟩

def slices_Index_int_L2_sh : LSh := ⟨(fun ex => match ex with | .norm => [(0, none), (1, none), (7, none), (8, none)] | .exit i => if i = 0 then [] else [] | .ret => [(4, none)]), [(0, (.one (.sl (.int .i64) false false))), (1, (.one (.si .i64))), (7, (.one (.si .i64))), (8, (.one (.si .i64)))], [], [⟨.ret, [(4, (.one (.si .i64)))], []⟩, ⟨(.exit 0), [], []⟩], [], []⟩
noncomputable def slices_Index_int_L2_step : (List (Int) × Int × Int × Int) → T ((List (Int) × Int × Int × Int) ⊕ (Int ⊕ Unit)) := fun (s, v, t7, t8) =>
  (.test (decide (t8 < t7))
  (.test (decide ((0 ≤ t8) ∧ (t8 < ((List.length s) : Int))))
   (.sub (s[(Int.toNat t8)]?) fun z0 =>
    (.test (v == z0)
    (.ret (Sum.inr (Sum.inl t8)))
    (.ret (Sum.inl (s, (v, (t7, (w64 (t8 + 1)))))))))
   .fail)
  (.ret (Sum.inr (Sum.inr ()))))
noncomputable def slices_Index_int_L2 (v : (List (Int) × Int × Int × Int)) : Option (Int ⊕ Unit) := loopO (fun v => (slices_Index_int_L2_step v).run) v

def slices_Index_int_fo : List FO := [⟨[(.one (.si .i64))], []⟩]
noncomputable def slices_Index_int_t : (List (Int) × Int) → T Int := fun (s, v) =>
  (.sub (slices_Index_int_L2 (s, (v, (((List.length s) : Int), (0 : Int))))) fun z0 =>
  (.test (Sum.isLeft z0)
  (.sub (Sum.getLeft? z0) fun z1 =>
   (.ret z1))
  (.sub (Sum.getRight? z0) fun z2 =>
   (.ret (-1)))))
noncomputable def slices_Index_int (v : (List (Int) × Int)) : Option Int := (slices_Index_int_t v).run
noncomputable def slices_Index_int_E : TEnv := E0
theorem slices_Index_int_Eok : (slices_Index_int_E).OK := E0ok
noncomputable def slices_Index_int_told : Nat → Option SealT := fun id => if id = 2 then some (LSh.told slices_Index_int_L2_sh 0 (slices_Index_int_L2_step)) else none
theorem slices_Index_int_L2_ok : ToldOK Try.prog 0 (loopAt (bodyOf fn_slices_Index_int) [0]) (LSh.told slices_Index_int_L2_sh 0 (slices_Index_int_L2_step)) :=
  loop_ok (E := slices_Index_int_E) (slices_Index_int_Eok) (told := slices_Index_int_told) (l := slices_Index_int_L2_sh) (step := slices_Index_int_L2_step) (loopsOK_of (ls := []) (by kernel_rfl) trivial) (by kernel_rfl) (fun v => by kernel_rfl)
theorem slices_Index_int_ok : FOK Try.prog n_slices_Index_int slices_Index_int_sh slices_Index_int_fo slices_Index_int :=
  fn_ok (E := slices_Index_int_E) (slices_Index_int_Eok) (told := slices_Index_int_told) (fl := []) (c := bodyOf fn_slices_Index_int) (s := slices_Index_int_sh) (l := slices_Index_int_fo) (tree := slices_Index_int_t) fnat_slices_Index_int (by kernel_rfl) (by kernel_rfl) (by kernel_rfl) (loopsOK_of (ls := [loopAt (bodyOf fn_slices_Index_int) [0]]) (by kernel_rfl) ⟨.inr ⟨_, by kernel_rfl, slices_Index_int_L2_ok⟩, trivial⟩) (fun v => by kernel_rfl)

theorem slices_Index_int_eq (s : List Int) (v : Int) (hl : s.length < 4611686018427387904) : slices_Index_int (s, v) = some (idxI (fun x => v == x) s) := by
  have h := loop_find (step := fun v => (slices_Index_int_L2_step v).run) (xs := s) (fun x => v == x) (fun k => (s, (v, ((s.length : Int), (k : Int))))) (fun k => .inl (k : Int)) (.inr ())
    (fun k x hx => by
      have hlt := getElem?_lt hx
      have h1 : (k : Int) < (s.length : Int) := by omega
      have h2 : (0 : Int) ≤ k ∧ (k : Int) < (s.length : Int) := by omega
      simp only [slices_Index_int_L2_step, T.run, Int.toNat_natCast, hx, Option.bind_some, h1, h2, decide_true, if_true, and_self]
      rw [w64_id (z := (k : Int) + 1) (by omega) (by omega)]
      cases hv : (v == x) <;> simp [hv])
    (by simp [slices_Index_int_L2_step, T.run])
  rw [show ((0 : Nat) : Int) = 0 from rfl] at h
  simp only [slices_Index_int, slices_Index_int_t, T.run, slices_Index_int_L2]
  rw [h]
  simp only [idxI]
  cases hf : s.findIdx? (fun x => v == x) <;> simp [Sum.isLeft, hf]


def slices_Delete_int_sh : FSh := ⟨[.one (.rw 0 0), .one (.si .i64), .one (.si .i64)], [.row 0 (.int .i64)]⟩
def slices_Delete_int_fo : List FO := [⟨[.one (.rw 0 0)], [.row 0 (.int .i64)]⟩]
def slices_Delete_int (v : (Unit × Int × Int) × List Int) : Option (Unit × List Int) := if 0 ≤ v.1.2.1 ∧ v.1.2.1 < v.1.2.2 ∧ v.1.2.2 ≤ (v.2.length : Int) ∧ v.2.length ≤ 4611686018427387904 then some ((), v.2.take v.1.2.1.toNat ++ v.2.drop v.1.2.2.toNat) else none
def slices_Delete_int_ren : Shelf.Ren := ⟨fun _ => n_slices_Delete_int, fun t => if t = 0 then 0 else if t = 3 then 3 else if t = 4 then 4 else if t = 22 then 22 else 3, fun x => x⟩
theorem slices_Delete_int_lay : SlLaysE0.n45 Try.prog slices_Delete_int_ren :=
  { mixed := by kernel_rfl, f45 := ⟨"slices.Delete[[]int,int]", by kernel_rfl, by kernel_rfl⟩, t0 := by kernel_rfl, a0 := fun w => by kernel_rfl, z0 := fun w => by kernel_rfl, v0 := fun w => by kernel_rfl, t3 := by kernel_rfl, a3 := fun w => by kernel_rfl, z3 := fun w => by kernel_rfl, v3 := fun w => by kernel_rfl, t4 := by kernel_rfl, a4 := fun w => by kernel_rfl, z4 := fun w => by kernel_rfl, v4 := fun w => by kernel_rfl, t22 := by kernel_rfl, a22 := fun w => by kernel_rfl, z22 := fun w => by kernel_rfl, v22 := fun w => by kernel_rfl }
noncomputable def slices_Delete_int_info : TypeInfo := (Try.prog.info? 3).get (by kernel_rfl)
theorem slices_Delete_int_ok : FOK Try.prog n_slices_Delete_int slices_Delete_int_sh slices_Delete_int_fo slices_Delete_int :=
  delete_ok ⟨_, fnat_slices_Delete_int, by kernel_rfl, by kernel_rfl⟩ (ρr := slices_Delete_int_ren) rfl slices_Delete_int_lay (fun w => by kernel_rfl) (fun w => by kernel_rfl) (fun w => by kernel_rfl) slices_Delete_int_info (by kernel_rfl) (by kernel_rfl)

def math_bits_Len_sh : FSh := ⟨[.one (.si .u64)], []⟩
def math_bits_Len_fo : List FO := [⟨[.one (.si .i64)], []⟩]
def math_bits_Len (x : Int) : Option Int := if 0 ≤ x ∧ x ≤ 18446744073709551615 then some (Lib.bitLen x.toNat : Int) else none
def math_bits_Len_ren : Shelf.Ren := ⟨fun k => if k = 125 then n_math_bits_Len else if k = 128 then 127 else 128, fun t => if t = 3 then 3 else if t = 4 then 4 else if t = 5 then 5 else if t = 9 then 9 else if t = 46 then 98 else if t = 51 then 118 else 120, fun x => x⟩
theorem math_bits_Len_lay : Lays.n125 Try.prog math_bits_Len_ren :=
  { mixed := by kernel_rfl, f125 := by kernel_rfl, f128 := by kernel_rfl, f129 := by kernel_rfl, t3 := by kernel_rfl, a3 := fun w => by kernel_rfl, z3 := fun w => by kernel_rfl, v3 := fun w => by kernel_rfl, t4 := by kernel_rfl, a4 := fun w => by kernel_rfl, z4 := fun w => by kernel_rfl, v4 := fun w => by kernel_rfl, t5 := by kernel_rfl, a5 := fun w => by kernel_rfl, z5 := fun w => by kernel_rfl, v5 := fun w => by kernel_rfl, t9 := by kernel_rfl, a9 := fun w => by kernel_rfl, z9 := fun w => by kernel_rfl, v9 := fun w => by kernel_rfl, t46 := by kernel_rfl, a46 := fun w => by kernel_rfl, z46 := fun w => by kernel_rfl, v46 := fun w => by kernel_rfl, t51 := by kernel_rfl, a51 := fun w => by kernel_rfl, z51 := fun w => by kernel_rfl, v51 := fun w => by kernel_rfl, t53 := by kernel_rfl, a53 := fun w => by kernel_rfl, z53 := fun w => by kernel_rfl, v53 := fun w => by kernel_rfl }
theorem math_bits_Len_ok : FOK Try.prog n_math_bits_Len math_bits_Len_sh math_bits_Len_fo math_bits_Len :=
  bitsLen_ok ⟨_, fnat_math_bits_Len, by kernel_rfl, by kernel_rfl⟩ (ρr := math_bits_Len_ren) rfl math_bits_Len_lay

def cmp_isNaN_int_sh : FSh := ⟨[(.one (.si .i64))], []⟩

def cmp_isNaN_int_fo : List FO := [⟨[(.one .sb)], []⟩]
noncomputable def cmp_isNaN_int_t : Int → T Bool := fun x =>
  (.ret (x != x))
noncomputable def cmp_isNaN_int (v : Int) : Option Bool := (cmp_isNaN_int_t v).run
noncomputable def cmp_isNaN_int_E : TEnv := E0
theorem cmp_isNaN_int_Eok : (cmp_isNaN_int_E).OK := E0ok
noncomputable def cmp_isNaN_int_told : Nat → Option SealT := fun id => none
theorem cmp_isNaN_int_ok : FOK Try.prog n_cmp_isNaN_int cmp_isNaN_int_sh cmp_isNaN_int_fo cmp_isNaN_int :=
  fn_ok (E := cmp_isNaN_int_E) (cmp_isNaN_int_Eok) (told := cmp_isNaN_int_told) (fl := []) (c := bodyOf fn_cmp_isNaN_int) (s := cmp_isNaN_int_sh) (l := cmp_isNaN_int_fo) (tree := cmp_isNaN_int_t) fnat_cmp_isNaN_int (by kernel_rfl) (by kernel_rfl) (by kernel_rfl) (loopsOK_of (ls := []) (by kernel_rfl) trivial) (fun v => by kernel_rfl)

def cmp_Compare_int_sh : FSh := ⟨[(.one (.si .i64)), (.one (.si .i64))], []⟩

def cmp_Compare_int_fo : List FO := [⟨[(.one (.si .i64))], []⟩]
noncomputable def cmp_Compare_int_t : (Int × Int) → T Int := fun (x, y) =>
  (.sub (cmp_isNaN_int x) fun z0 =>
  (.sub (cmp_isNaN_int y) fun z1 =>
  (.test z0
  (.test z1
   (.ret (0 : Int))
   (.ret (-1)))
  (.test z1
   (.ret (1 : Int))
   (.test (decide (x < y))
    (.ret (-1))
    (.test (decide (x > y))
     (.ret (1 : Int))
     (.ret (0 : Int))))))))
noncomputable def cmp_Compare_int (v : (Int × Int)) : Option Int := (cmp_Compare_int_t v).run
noncomputable def cmp_Compare_int_E : TEnv := (E0.add1 n_cmp_isNaN_int cmp_isNaN_int_sh cmp_isNaN_int_fo cmp_isNaN_int)
theorem cmp_Compare_int_Eok : (cmp_Compare_int_E).OK := (E0ok.add1 cmp_isNaN_int_ok)
noncomputable def cmp_Compare_int_told : Nat → Option SealT := fun id => none
theorem cmp_Compare_int_ok : FOK Try.prog n_cmp_Compare_int cmp_Compare_int_sh cmp_Compare_int_fo cmp_Compare_int :=
  fn_ok (E := cmp_Compare_int_E) (cmp_Compare_int_Eok) (told := cmp_Compare_int_told) (fl := []) (c := bodyOf fn_cmp_Compare_int) (s := cmp_Compare_int_sh) (l := cmp_Compare_int_fo) (tree := cmp_Compare_int_t) fnat_cmp_Compare_int (by kernel_rfl) (by kernel_rfl) (by kernel_rfl) (loopsOK_of (ls := []) (by kernel_rfl) trivial) (fun v => by kernel_rfl)

theorem cmp_Compare_int_eq (a b : Int) : cmp_Compare_int (a, b) = some (if a < b then -1 else if b < a then 1 else 0) := by
  have h : ∀ x, cmp_isNaN_int x = some false := fun x => by simp [cmp_isNaN_int, cmp_isNaN_int_t, T.run]
  simp only [cmp_Compare_int, cmp_Compare_int_t, T.run, h, Option.bind_some]
  by_cases h1 : a < b
  · simp [h1]
  · by_cases h2 : b < a <;> simp [h1, h2]


def cmp_Or_int_sh : FSh := ⟨[(.one (.sl (.int .i64) false false))], []⟩

def cmp_Or_int_L3_sh : LSh := ⟨(fun ex => match ex with | .norm => [(3, none), (6, none), (7, none), (8, none)] | .exit i => if i = 0 then [(3, none)] else [] | .ret => [(2, none)]), [(3, (.one (.si .i64))), (6, (.one (.sl (.int .i64) false false))), (7, (.one (.si .i64))), (8, (.one (.si .i64)))], [], [⟨.ret, [(2, (.one (.si .i64)))], []⟩, ⟨(.exit 0), [(3, (.one (.si .i64)))], []⟩], [], []⟩
noncomputable def cmp_Or_int_L3_step : (Int × List (Int) × Int × Int) → T ((Int × List (Int) × Int × Int) ⊕ (Int ⊕ Int)) := fun (zero, t6, t7, t8) =>
  (.test (decide (t8 < t7))
  (.test (decide ((0 ≤ t8) ∧ (t8 < ((List.length t6) : Int))))
   (.sub (t6[(Int.toNat t8)]?) fun z0 =>
    (.test (z0 != zero)
    (.ret (Sum.inr (Sum.inl z0)))
    (.ret (Sum.inl (zero, (t6, (t7, (w64 (t8 + 1)))))))))
   .fail)
  (.ret (Sum.inr (Sum.inr zero))))
noncomputable def cmp_Or_int_L3 (v : (Int × List (Int) × Int × Int)) : Option (Int ⊕ Int) := loopO (fun v => (cmp_Or_int_L3_step v).run) v

def cmp_Or_int_fo : List FO := [⟨[(.one (.si .i64))], []⟩]
noncomputable def cmp_Or_int_t : List (Int) → T Int := fun vals =>
  (.sub (cmp_Or_int_L3 ((0 : Int), (vals, (((List.length vals) : Int), (0 : Int))))) fun z0 =>
  (.test (Sum.isLeft z0)
  (.sub (Sum.getLeft? z0) fun z1 =>
   (.ret z1))
  (.sub (Sum.getRight? z0) fun z2 =>
   (.ret z2))))
noncomputable def cmp_Or_int (v : List (Int)) : Option Int := (cmp_Or_int_t v).run
noncomputable def cmp_Or_int_E : TEnv := E0
theorem cmp_Or_int_Eok : (cmp_Or_int_E).OK := E0ok
noncomputable def cmp_Or_int_told : Nat → Option SealT := fun id => if id = 3 then some (LSh.told cmp_Or_int_L3_sh 0 (cmp_Or_int_L3_step)) else none
theorem cmp_Or_int_L3_ok : ToldOK Try.prog 0 (loopAt (bodyOf fn_cmp_Or_int) [0]) (LSh.told cmp_Or_int_L3_sh 0 (cmp_Or_int_L3_step)) :=
  loop_ok (E := cmp_Or_int_E) (cmp_Or_int_Eok) (told := cmp_Or_int_told) (l := cmp_Or_int_L3_sh) (step := cmp_Or_int_L3_step) (loopsOK_of (ls := []) (by kernel_rfl) trivial) (by kernel_rfl) (fun v => by kernel_rfl)
theorem cmp_Or_int_ok : FOK Try.prog n_cmp_Or_int cmp_Or_int_sh cmp_Or_int_fo cmp_Or_int :=
  fn_ok (E := cmp_Or_int_E) (cmp_Or_int_Eok) (told := cmp_Or_int_told) (fl := []) (c := bodyOf fn_cmp_Or_int) (s := cmp_Or_int_sh) (l := cmp_Or_int_fo) (tree := cmp_Or_int_t) fnat_cmp_Or_int (by kernel_rfl) (by kernel_rfl) (by kernel_rfl) (loopsOK_of (ls := [loopAt (bodyOf fn_cmp_Or_int) [0]]) (by kernel_rfl) ⟨.inr ⟨_, by kernel_rfl, cmp_Or_int_L3_ok⟩, trivial⟩) (fun v => by kernel_rfl)

theorem cmp_Or_int_two (a b : Int) : cmp_Or_int [a, b] = some (if a = 0 then b else a) := by
  simp only [cmp_Or_int, cmp_Or_int_t, T.run, cmp_Or_int_L3]
  rw [loopO_step]
  simp only [cmp_Or_int_L3_step, T.run]
  by_cases ha : a = 0
  · subst ha
    simp [w64_id (z := 1)]
    rw [loopO_step]
    simp only [cmp_Or_int_L3_step, T.run]
    by_cases hb : b = 0
    · subst hb
      simp [w64_id (z := 2)]
      rw [loopO_step]
      simp [cmp_Or_int_L3_step, T.run]
    · simp [hb]
  · simp [ha]


def i_compareDiagonals_sh : FSh := ⟨[(.ag [(.si .i64), (.si .i64)]), (.ag [(.si .i64), (.si .i64)])], []⟩

def i_compareDiagonals_fo : List FO := [⟨[(.one (.si .i64))], []⟩]
noncomputable def i_compareDiagonals_t : ((Int × Int) × (Int × Int)) → T Int := fun ((a_0, a_1), (b_0, b_1)) =>
  (.sub (cmp_Compare_int (a_0, b_0)) fun z0 =>
  (.sub (cmp_Compare_int (a_1, b_1)) fun z1 =>
  (.test (decide (2 ≤ (List.length (List.set (List.set (List.replicate 2 (0 : Int)) 0 z0) 1 z1))))
  (.sub (cmp_Or_int (win (List.set (List.set (List.replicate 2 (0 : Int)) 0 z0) 1 z1) 0 2)) fun z2 =>
   (.ret z2))
  .fail)))
noncomputable def i_compareDiagonals (v : ((Int × Int) × (Int × Int))) : Option Int := (i_compareDiagonals_t v).run
noncomputable def i_compareDiagonals_E : TEnv := ((E0.add1 n_cmp_Compare_int cmp_Compare_int_sh cmp_Compare_int_fo cmp_Compare_int).add1 n_cmp_Or_int cmp_Or_int_sh cmp_Or_int_fo cmp_Or_int)
theorem i_compareDiagonals_Eok : (i_compareDiagonals_E).OK := ((E0ok.add1 cmp_Compare_int_ok).add1 cmp_Or_int_ok)
noncomputable def i_compareDiagonals_told : Nat → Option SealT := fun id => none
theorem i_compareDiagonals_ok : FOK Try.prog n_i_compareDiagonals i_compareDiagonals_sh i_compareDiagonals_fo i_compareDiagonals :=
  fn_ok (E := i_compareDiagonals_E) (i_compareDiagonals_Eok) (told := i_compareDiagonals_told) (fl := []) (c := bodyOf fn_i_compareDiagonals) (s := i_compareDiagonals_sh) (l := i_compareDiagonals_fo) (tree := i_compareDiagonals_t) fnat_i_compareDiagonals (by kernel_rfl) (by kernel_rfl) (by kernel_rfl) (loopsOK_of (ls := []) (by kernel_rfl) trivial) (fun v => by kernel_rfl)

theorem i_compareDiagonals_eq (d e : Dg) : i_compareDiagonals (d, e) = some (cmpD d e) := by
  obtain ⟨a, b⟩ := d
  obtain ⟨c, f⟩ := e
  have h2 : win (List.set (List.set (List.replicate 2 (0 : Int)) 0 (if a < c then -1 else if c < a then 1 else 0)) 1 (if b < f then -1 else if f < b then 1 else 0)) 0 2 = [if a < c then -1 else if c < a then 1 else 0, if b < f then -1 else if f < b then 1 else 0] := rfl
  simp only [i_compareDiagonals, i_compareDiagonals_t, T.run, cmp_Compare_int_eq, Option.bind_some, h2, cmp_Or_int_two]
  simp only [List.length_set, List.length_replicate, Nat.le_refl, decide_true, if_true]
  congr 1
  unfold cmpD ltD
  simp only [decide_eq_true_eq]
  split <;> split <;> (try split) <;> (try split) <;> omega
theorem cmpD_lt (d e : Dg) : decide (cmpD d e < 0) = ltD d e := by
  unfold cmpD
  cases ltD d e <;> simp
  split <;> omega
theorem cmpD_ge (d e : Dg) : decide (cmpD d e ≥ 0) = !ltD d e := by
  unfold cmpD
  cases ltD d e <;> simp
  split <;> omega


def slices_insertionSortCmpFunc_Diagonal__i_compareDiagonals_sh : FSh := ⟨[(.one (.rw 0 0)), (.one (.si .i64)), (.one (.si .i64)), (.one (.fn n_i_compareDiagonals))], [(.row 0 (.pair (.int .i64) (.int .i64)))]⟩

def slices_insertionSortCmpFunc_Diagonal__i_compareDiagonals_L4_sh : LSh := ⟨(fun ex => match ex with | .norm => [(0, none), (1, none), (2, none), (3, none), (8, none), (9, none)] | .exit i => if i = 2 then [(0, none), (1, none), (2, none), (3, none), (8, none)] else if i = 1 then [(0, none), (1, none), (2, none), (3, none), (8, none)] else if i = 0 then [] else [] | .ret => []), [(0, (.one (.rw 0 0))), (1, (.one (.si .i64))), (2, (.one (.si .i64))), (3, (.one (.fn n_i_compareDiagonals))), (8, (.one (.si .i64))), (9, (.one (.si .i64)))], [(.row 0 (.pair (.int .i64) (.int .i64)))], [⟨(.exit 2), [(0, (.one (.rw 0 0))), (1, (.one (.si .i64))), (2, (.one (.si .i64))), (3, (.one (.fn n_i_compareDiagonals))), (8, (.one (.si .i64)))], [(.row 0 (.pair (.int .i64) (.int .i64)))]⟩], [], []⟩
noncomputable def slices_insertionSortCmpFunc_Diagonal__i_compareDiagonals_L4_step : ((Unit × Int × Int × Unit × Int × Int) × List ((Int × Int))) → T (((Unit × Int × Int × Unit × Int × Int) × List ((Int × Int))) ⊕ ((Unit × Int × Int × Unit × Int) × List ((Int × Int)))) := fun (((), a, b, (), i, j), data) =>
  (.test (decide (j > a))
  (.test (decide ((0 ≤ j) ∧ (j < ((List.length data) : Int))))
   (.sub (data[(0 + (Int.toNat j))]?) fun z0 =>
    (.test (decide ((0 ≤ (w64 (j - 1))) ∧ ((w64 (j - 1)) < ((List.length data) : Int))))
    (.sub (data[(0 + (Int.toNat (w64 (j - 1))))]?) fun z1 =>
     (.sub (i_compareDiagonals ((z0.1, z0.2), (z1.1, z1.2))) fun z2 =>
     (.test (decide (z2 < 0))
     (.test (decide ((0 ≤ (w64 (j - 1))) ∧ ((w64 (j - 1)) < ((List.length data) : Int))))
      (.sub (data[(0 + (Int.toNat (w64 (j - 1))))]?) fun z3 =>
       (.test (decide ((0 ≤ j) ∧ (j < ((List.length data) : Int))))
       (.sub (data[(0 + (Int.toNat j))]?) fun z4 =>
        (.test (decide ((0 ≤ j) ∧ (j < ((List.length data) : Int))))
        (.sub (data[(0 + (Int.toNat j))]?) fun z5 =>
         (.test (decide ((0 ≤ (w64 (j - 1))) ∧ ((w64 (j - 1)) < ((List.length data) : Int))))
         (.sub ((List.set data (0 + (Int.toNat j)) (z3.1, z3.2))[(0 + (Int.toNat (w64 (j - 1))))]?) fun z6 =>
          (.test (decide ((0 = 0) ∧ ((List.length data) = (List.length (List.set (List.set data (0 + (Int.toNat j)) (z3.1, z3.2)) (0 + (Int.toNat (w64 (j - 1)))) (z4.1, z4.2))))))
          (.ret (Sum.inl (((), (a, (b, ((), (i, (w64 (j - 1))))))), (List.set (List.set data (0 + (Int.toNat j)) (z3.1, z3.2)) (0 + (Int.toNat (w64 (j - 1)))) (z4.1, z4.2)))))
          .fail))
         .fail))
        .fail))
       .fail))
      .fail)
     (.test (decide ((0 = 0) ∧ ((List.length data) = (List.length data))))
      (.ret (Sum.inr (((), (a, (b, ((), i)))), data)))
      .fail))))
    .fail))
   .fail)
  (.test (decide ((0 = 0) ∧ ((List.length data) = (List.length data))))
   (.ret (Sum.inr (((), (a, (b, ((), i)))), data)))
   .fail))
noncomputable def slices_insertionSortCmpFunc_Diagonal__i_compareDiagonals_L4 (v : ((Unit × Int × Int × Unit × Int × Int) × List ((Int × Int)))) : Option ((Unit × Int × Int × Unit × Int) × List ((Int × Int))) := loopO (fun v => (slices_insertionSortCmpFunc_Diagonal__i_compareDiagonals_L4_step v).run) v

def slices_insertionSortCmpFunc_Diagonal__i_compareDiagonals_L1_sh : LSh := ⟨(fun ex => match ex with | .norm => [(0, none), (1, none), (2, none), (3, none), (8, none)] | .exit i => if i = 0 then [] else [] | .ret => []), [(0, (.one (.rw 0 0))), (1, (.one (.si .i64))), (2, (.one (.si .i64))), (3, (.one (.fn n_i_compareDiagonals))), (8, (.one (.si .i64)))], [(.row 0 (.pair (.int .i64) (.int .i64)))], [⟨(.exit 0), [], [(.row 0 (.pair (.int .i64) (.int .i64)))]⟩], [], []⟩
noncomputable def slices_insertionSortCmpFunc_Diagonal__i_compareDiagonals_L1_step : ((Unit × Int × Int × Unit × Int) × List ((Int × Int))) → T (((Unit × Int × Int × Unit × Int) × List ((Int × Int))) ⊕ (Unit × List ((Int × Int)))) := fun (((), a, b, (), i), data) =>
  (.test (decide (i < b))
  (.test (decide ((0 = 0) ∧ ((List.length data) = (List.length data))))
   (.sub (slices_insertionSortCmpFunc_Diagonal__i_compareDiagonals_L4 (((), (a, (b, ((), (i, i))))), data)) fun z0 =>
    (.test (decide ((0 = 0) ∧ ((List.length z0.2) = (List.length z0.2))))
    (.ret (Sum.inl (((), (z0.1.2.1, (z0.1.2.2.1, ((), (w64 (z0.1.2.2.2.2 + 1)))))), z0.2)))
    .fail))
   .fail)
  (.ret (Sum.inr ((), data))))
noncomputable def slices_insertionSortCmpFunc_Diagonal__i_compareDiagonals_L1 (v : ((Unit × Int × Int × Unit × Int) × List ((Int × Int)))) : Option (Unit × List ((Int × Int))) := loopO (fun v => (slices_insertionSortCmpFunc_Diagonal__i_compareDiagonals_L1_step v).run) v

def slices_insertionSortCmpFunc_Diagonal__i_compareDiagonals_fo : List FO := [⟨[], [(.row 0 (.pair (.int .i64) (.int .i64)))]⟩]
noncomputable def slices_insertionSortCmpFunc_Diagonal__i_compareDiagonals_t : ((Unit × Int × Int × Unit) × List ((Int × Int))) → T (Unit × List ((Int × Int))) := fun (((), a, b, ()), data) =>
  (.test (decide ((0 = 0) ∧ ((List.length data) = (List.length data))))
  (.sub (slices_insertionSortCmpFunc_Diagonal__i_compareDiagonals_L1 (((), (a, (b, ((), (w64 (a + 1)))))), data)) fun z0 =>
   (.ret ((), z0.2)))
  .fail)
noncomputable def slices_insertionSortCmpFunc_Diagonal__i_compareDiagonals (v : ((Unit × Int × Int × Unit) × List ((Int × Int)))) : Option (Unit × List ((Int × Int))) := (slices_insertionSortCmpFunc_Diagonal__i_compareDiagonals_t v).run
noncomputable def slices_insertionSortCmpFunc_Diagonal__i_compareDiagonals_E : TEnv := (E0.add1 n_i_compareDiagonals i_compareDiagonals_sh i_compareDiagonals_fo i_compareDiagonals)
theorem slices_insertionSortCmpFunc_Diagonal__i_compareDiagonals_Eok : (slices_insertionSortCmpFunc_Diagonal__i_compareDiagonals_E).OK := (E0ok.add1 i_compareDiagonals_ok)
noncomputable def slices_insertionSortCmpFunc_Diagonal__i_compareDiagonals_told : Nat → Option SealT := fun id => if id = 4 then some (LSh.told slices_insertionSortCmpFunc_Diagonal__i_compareDiagonals_L4_sh 1 (slices_insertionSortCmpFunc_Diagonal__i_compareDiagonals_L4_step)) else if id = 1 then some (LSh.told slices_insertionSortCmpFunc_Diagonal__i_compareDiagonals_L1_sh 1 (slices_insertionSortCmpFunc_Diagonal__i_compareDiagonals_L1_step)) else none
theorem slices_insertionSortCmpFunc_Diagonal__i_compareDiagonals_L4_ok : ToldOK Try.prog 1 (loopAt (bodyOf fn_slices_insertionSortCmpFunc_Diagonal) [0, 0]) (LSh.told slices_insertionSortCmpFunc_Diagonal__i_compareDiagonals_L4_sh 1 (slices_insertionSortCmpFunc_Diagonal__i_compareDiagonals_L4_step)) :=
  loop_ok (E := slices_insertionSortCmpFunc_Diagonal__i_compareDiagonals_E) (slices_insertionSortCmpFunc_Diagonal__i_compareDiagonals_Eok) (told := slices_insertionSortCmpFunc_Diagonal__i_compareDiagonals_told) (l := slices_insertionSortCmpFunc_Diagonal__i_compareDiagonals_L4_sh) (step := slices_insertionSortCmpFunc_Diagonal__i_compareDiagonals_L4_step) (loopsOK_of (ls := []) (by kernel_rfl) trivial) (by kernel_rfl) (fun v => by kernel_rfl)
theorem slices_insertionSortCmpFunc_Diagonal__i_compareDiagonals_L1_ok : ToldOK Try.prog 1 (loopAt (bodyOf fn_slices_insertionSortCmpFunc_Diagonal) [0]) (LSh.told slices_insertionSortCmpFunc_Diagonal__i_compareDiagonals_L1_sh 1 (slices_insertionSortCmpFunc_Diagonal__i_compareDiagonals_L1_step)) :=
  loop_ok (E := slices_insertionSortCmpFunc_Diagonal__i_compareDiagonals_E) (slices_insertionSortCmpFunc_Diagonal__i_compareDiagonals_Eok) (told := slices_insertionSortCmpFunc_Diagonal__i_compareDiagonals_told) (l := slices_insertionSortCmpFunc_Diagonal__i_compareDiagonals_L1_sh) (step := slices_insertionSortCmpFunc_Diagonal__i_compareDiagonals_L1_step) (loopsOK_of (ls := [loopAt (bodyOf fn_slices_insertionSortCmpFunc_Diagonal) [0, 0]]) (by kernel_rfl) ⟨.inr ⟨_, by kernel_rfl, slices_insertionSortCmpFunc_Diagonal__i_compareDiagonals_L4_ok⟩, trivial⟩) (by kernel_rfl) (fun v => by kernel_rfl)
theorem slices_insertionSortCmpFunc_Diagonal__i_compareDiagonals_ok : FOK Try.prog n_slices_insertionSortCmpFunc_Diagonal slices_insertionSortCmpFunc_Diagonal__i_compareDiagonals_sh slices_insertionSortCmpFunc_Diagonal__i_compareDiagonals_fo slices_insertionSortCmpFunc_Diagonal__i_compareDiagonals :=
  fn_ok (E := slices_insertionSortCmpFunc_Diagonal__i_compareDiagonals_E) (slices_insertionSortCmpFunc_Diagonal__i_compareDiagonals_Eok) (told := slices_insertionSortCmpFunc_Diagonal__i_compareDiagonals_told) (fl := []) (c := bodyOf fn_slices_insertionSortCmpFunc_Diagonal) (s := slices_insertionSortCmpFunc_Diagonal__i_compareDiagonals_sh) (l := slices_insertionSortCmpFunc_Diagonal__i_compareDiagonals_fo) (tree := slices_insertionSortCmpFunc_Diagonal__i_compareDiagonals_t) fnat_slices_insertionSortCmpFunc_Diagonal (by kernel_rfl) (by kernel_rfl) (by kernel_rfl) (loopsOK_of (ls := [loopAt (bodyOf fn_slices_insertionSortCmpFunc_Diagonal) [0]]) (by kernel_rfl) ⟨.inr ⟨_, by kernel_rfl, slices_insertionSortCmpFunc_Diagonal__i_compareDiagonals_L1_ok⟩, trivial⟩) (fun v => by kernel_rfl)

theorem slices_insertionSortCmpFunc_Diagonal__i_compareDiagonals_sink (b i : Int) : ∀ (j : Nat) (l : List Dg), j < l.length → l.length < 1000000 →
    slices_insertionSortCmpFunc_Diagonal__i_compareDiagonals_L4 (((), ((0 : Int), (b, ((), (i, (j : Int)))))), l) = some (((), ((0 : Int), (b, ((), i)))), sinkD j l)
  | 0, l, hj, hl => by
    simp only [slices_insertionSortCmpFunc_Diagonal__i_compareDiagonals_L4]
    exact loopO_done (by simp [slices_insertionSortCmpFunc_Diagonal__i_compareDiagonals_L4_step, T.run, sinkD])
  | j + 1, l, hj, hl => by
    have ih := slices_insertionSortCmpFunc_Diagonal__i_compareDiagonals_sink b i j (swapD l j) (by rw [swapD_length]; omega) (by rw [swapD_length]; omega)
    simp only [slices_insertionSortCmpFunc_Diagonal__i_compareDiagonals_L4] at ih ⊢
    have w1 : w64 (((j + 1 : Nat) : Int) - 1) = (j : Int) := by rw [w64_id (by omega) (by omega)]; omega
    have c0 : ((j + 1 : Nat) : Int) > 0 := by omega
    have c1 : (0 : Int) ≤ ((j + 1 : Nat) : Int) ∧ ((j + 1 : Nat) : Int) < (l.length : Int) := by omega
    have c2 : (0 : Int) ≤ (j : Int) ∧ (j : Int) < (l.length : Int) := by omega
    have g1 := gD_some hj
    have g2 := gD_some (show j < l.length by omega)
    cases hlt : ltD (gD l (j + 1)) (gD l j) with
    | false =>
      have e : sinkD (j + 1) l = l := by unfold sinkD; rw [hlt]; rfl
      rw [e]
      refine loopO_done ?_
      simp only [slices_insertionSortCmpFunc_Diagonal__i_compareDiagonals_L4_step, T.run, w1, c0, c1, c2, Int.toNat_natCast, Nat.zero_add, g1, g2, Option.bind_some, decide_true, if_true, i_compareDiagonals_eq, cmpD_lt, hlt, and_self]
      simp
    | true =>
      have e : sinkD (j + 1) l = sinkD j (swapD l j) := by conv => lhs; unfold sinkD
                                                           rw [hlt]; rfl
      rw [e, ← ih]
      refine loopO_next ?_
      have g3 : (l.set (j + 1) (gD l j))[j]? = some (gD l j) := by rw [List.getElem?_set_ne (by omega)]; exact g2
      simp only [slices_insertionSortCmpFunc_Diagonal__i_compareDiagonals_L4_step, T.run, w1, c0, c1, c2, Int.toNat_natCast, Nat.zero_add, g1, g2, g3, Option.bind_some, decide_true, if_true, i_compareDiagonals_eq, cmpD_lt, hlt, and_self]
      simp [swapD]
theorem slices_insertionSortCmpFunc_Diagonal__i_compareDiagonals_isort : ∀ (n i : Nat) (l : List Dg), i + n = l.length → l.length < 1000000 →
    slices_insertionSortCmpFunc_Diagonal__i_compareDiagonals_L1 (((), ((0 : Int), ((l.length : Int), ((), (i : Int))))), l) = some ((), isortD n i l)
  | 0, i, l, hi, hl => by
    simp only [slices_insertionSortCmpFunc_Diagonal__i_compareDiagonals_L1]
    refine loopO_done ?_
    have : ¬ ((i : Int) < (l.length : Int)) := by omega
    simp [slices_insertionSortCmpFunc_Diagonal__i_compareDiagonals_L1_step, T.run, this, isortD]
  | n + 1, i, l, hi, hl => by
    have ih := slices_insertionSortCmpFunc_Diagonal__i_compareDiagonals_isort n (i + 1) (sinkD i l) (by rw [sinkD_length]; omega) (by rw [sinkD_length]; omega)
    rw [sinkD_length] at ih
    simp only [slices_insertionSortCmpFunc_Diagonal__i_compareDiagonals_L1] at ih ⊢
    show _ = some ((), isortD n (i + 1) (sinkD i l))
    rw [← ih]
    refine loopO_next ?_
    have c0 : (i : Int) < (l.length : Int) := by omega
    have w1 : w64 ((i : Int) + 1) = ((i + 1 : Nat) : Int) := by rw [w64_id (by omega) (by omega)]; omega
    simp only [slices_insertionSortCmpFunc_Diagonal__i_compareDiagonals_L1_step, T.run, c0, decide_true, if_true, slices_insertionSortCmpFunc_Diagonal__i_compareDiagonals_sink _ _ i l (by omega) hl, Option.bind_some, w1, and_self]


def slices_pdqsortCmpFunc_Diagonal__i_compareDiagonals_sh : FSh := ⟨[(.one (.rw 0 0)), (.one (.si .i64)), (.one (.si .i64)), (.one (.si .i64)), (.one (.fn n_i_compareDiagonals))], [(.row 0 (.pair (.int .i64) (.int .i64)))]⟩

def slices_pdqsortCmpFunc_Diagonal__i_compareDiagonals_L2_sh : LSh := ⟨(fun ex => match ex with | .norm => [(0, none), (1, none), (2, none), (3, none), (4, none), (10, none), (11, none)] | .exit i => if i = 0 then [] else [] | .ret => []), [(0, (.one (.rw 0 0))), (1, (.one (.si .i64))), (2, (.one (.si .i64))), (3, (.one (.si .i64))), (4, (.one (.fn n_i_compareDiagonals))), (10, (.one .sb)), (11, (.one .sb))], [(.row 0 (.pair (.int .i64) (.int .i64)))], [⟨.ret, [], [(.row 0 (.pair (.int .i64) (.int .i64)))]⟩], [], []⟩
noncomputable def slices_pdqsortCmpFunc_Diagonal__i_compareDiagonals_L2_step : ((Unit × Int × Int × Int × Unit × Bool × Bool) × List ((Int × Int))) → T (((Unit × Int × Int × Int × Unit × Bool × Bool) × List ((Int × Int))) ⊕ (Unit × List ((Int × Int)))) := fun (((), a, b, limit, (), wasBalanced, wasPartitioned), data) =>
  (.test (decide ((w64 (b - a)) ≤ 12))
  (.test (decide ((0 = 0) ∧ ((List.length data) = (List.length data))))
   (.sub (slices_insertionSortCmpFunc_Diagonal__i_compareDiagonals (((), (a, (b, ()))), data)) fun z0 =>
    (.ret (Sum.inr ((), z0.2))))
   .fail)
  (.test (limit == 0)
   .fail
   (.test (! wasBalanced)
    .fail
    .fail)))
noncomputable def slices_pdqsortCmpFunc_Diagonal__i_compareDiagonals_L2 (v : ((Unit × Int × Int × Int × Unit × Bool × Bool) × List ((Int × Int)))) : Option (Unit × List ((Int × Int))) := loopO (fun v => (slices_pdqsortCmpFunc_Diagonal__i_compareDiagonals_L2_step v).run) v

def slices_pdqsortCmpFunc_Diagonal__i_compareDiagonals_fo : List FO := [⟨[], [(.row 0 (.pair (.int .i64) (.int .i64)))]⟩]
noncomputable def slices_pdqsortCmpFunc_Diagonal__i_compareDiagonals_t : ((Unit × Int × Int × Int × Unit) × List ((Int × Int))) → T (Unit × List ((Int × Int))) := fun (((), a, b, limit, ()), data) =>
  (.test (decide ((0 = 0) ∧ ((List.length data) = (List.length data))))
  (.sub (slices_pdqsortCmpFunc_Diagonal__i_compareDiagonals_L2 (((), (a, (b, (limit, ((), (true, true)))))), data)) fun z0 =>
   (.ret ((), z0.2)))
  .fail)
noncomputable def slices_pdqsortCmpFunc_Diagonal__i_compareDiagonals (v : ((Unit × Int × Int × Int × Unit) × List ((Int × Int)))) : Option (Unit × List ((Int × Int))) := (slices_pdqsortCmpFunc_Diagonal__i_compareDiagonals_t v).run
noncomputable def slices_pdqsortCmpFunc_Diagonal__i_compareDiagonals_E : TEnv := (E0.add1 n_slices_insertionSortCmpFunc_Diagonal slices_insertionSortCmpFunc_Diagonal__i_compareDiagonals_sh slices_insertionSortCmpFunc_Diagonal__i_compareDiagonals_fo slices_insertionSortCmpFunc_Diagonal__i_compareDiagonals)
theorem slices_pdqsortCmpFunc_Diagonal__i_compareDiagonals_Eok : (slices_pdqsortCmpFunc_Diagonal__i_compareDiagonals_E).OK := (E0ok.add1 slices_insertionSortCmpFunc_Diagonal__i_compareDiagonals_ok)
noncomputable def slices_pdqsortCmpFunc_Diagonal__i_compareDiagonals_told : Nat → Option SealT := fun id => if id = 2 then some (LSh.told slices_pdqsortCmpFunc_Diagonal__i_compareDiagonals_L2_sh 1 (slices_pdqsortCmpFunc_Diagonal__i_compareDiagonals_L2_step)) else none
theorem slices_pdqsortCmpFunc_Diagonal__i_compareDiagonals_L2_ok : ToldOK Try.prog 1 (loopAt (bodyOf fn_slices_pdqsortCmpFunc_Diagonal) [0]) (LSh.told slices_pdqsortCmpFunc_Diagonal__i_compareDiagonals_L2_sh 1 (slices_pdqsortCmpFunc_Diagonal__i_compareDiagonals_L2_step)) :=
  loop_ok (E := slices_pdqsortCmpFunc_Diagonal__i_compareDiagonals_E) (slices_pdqsortCmpFunc_Diagonal__i_compareDiagonals_Eok) (told := slices_pdqsortCmpFunc_Diagonal__i_compareDiagonals_told) (l := slices_pdqsortCmpFunc_Diagonal__i_compareDiagonals_L2_sh) (step := slices_pdqsortCmpFunc_Diagonal__i_compareDiagonals_L2_step) (loopsOK_of (ls := []) (by kernel_rfl) trivial) (by kernel_rfl) (fun v => by kernel_rfl)
theorem slices_pdqsortCmpFunc_Diagonal__i_compareDiagonals_ok : FOK Try.prog n_slices_pdqsortCmpFunc_Diagonal slices_pdqsortCmpFunc_Diagonal__i_compareDiagonals_sh slices_pdqsortCmpFunc_Diagonal__i_compareDiagonals_fo slices_pdqsortCmpFunc_Diagonal__i_compareDiagonals :=
  fn_ok (E := slices_pdqsortCmpFunc_Diagonal__i_compareDiagonals_E) (slices_pdqsortCmpFunc_Diagonal__i_compareDiagonals_Eok) (told := slices_pdqsortCmpFunc_Diagonal__i_compareDiagonals_told) (fl := []) (c := bodyOf fn_slices_pdqsortCmpFunc_Diagonal) (s := slices_pdqsortCmpFunc_Diagonal__i_compareDiagonals_sh) (l := slices_pdqsortCmpFunc_Diagonal__i_compareDiagonals_fo) (tree := slices_pdqsortCmpFunc_Diagonal__i_compareDiagonals_t) fnat_slices_pdqsortCmpFunc_Diagonal (by kernel_rfl) (by kernel_rfl) (by kernel_rfl) (loopsOK_of (ls := [loopAt (bodyOf fn_slices_pdqsortCmpFunc_Diagonal) [0]]) (by kernel_rfl) ⟨.inr ⟨_, by kernel_rfl, slices_pdqsortCmpFunc_Diagonal__i_compareDiagonals_L2_ok⟩, trivial⟩) (fun v => by kernel_rfl)

def slices_SortFunc_Diagonal__i_compareDiagonals_sh : FSh := ⟨[(.one (.rw 0 0)), (.one (.fn n_i_compareDiagonals))], [(.row 0 (.pair (.int .i64) (.int .i64)))]⟩

def slices_SortFunc_Diagonal__i_compareDiagonals_fo : List FO := [⟨[], [(.row 0 (.pair (.int .i64) (.int .i64)))]⟩]
noncomputable def slices_SortFunc_Diagonal__i_compareDiagonals_t : ((Unit × Unit) × List ((Int × Int))) → T (Unit × List ((Int × Int))) := fun (((), ()), x) =>
  (.sub (math_bits_Len (wu64 ((List.length x) : Int))) fun z0 =>
  (.test (decide ((0 = 0) ∧ ((List.length x) = (List.length x))))
  (.sub (slices_pdqsortCmpFunc_Diagonal__i_compareDiagonals (((), ((0 : Int), (((List.length x) : Int), (z0, ())))), x)) fun z1 =>
   (.ret ((), z1.2)))
  .fail))
noncomputable def slices_SortFunc_Diagonal__i_compareDiagonals (v : ((Unit × Unit) × List ((Int × Int)))) : Option (Unit × List ((Int × Int))) := (slices_SortFunc_Diagonal__i_compareDiagonals_t v).run
noncomputable def slices_SortFunc_Diagonal__i_compareDiagonals_E : TEnv := ((E0.add1 n_math_bits_Len math_bits_Len_sh math_bits_Len_fo math_bits_Len).add1 n_slices_pdqsortCmpFunc_Diagonal slices_pdqsortCmpFunc_Diagonal__i_compareDiagonals_sh slices_pdqsortCmpFunc_Diagonal__i_compareDiagonals_fo slices_pdqsortCmpFunc_Diagonal__i_compareDiagonals)
theorem slices_SortFunc_Diagonal__i_compareDiagonals_Eok : (slices_SortFunc_Diagonal__i_compareDiagonals_E).OK := ((E0ok.add1 math_bits_Len_ok).add1 slices_pdqsortCmpFunc_Diagonal__i_compareDiagonals_ok)
noncomputable def slices_SortFunc_Diagonal__i_compareDiagonals_told : Nat → Option SealT := fun id => none
theorem slices_SortFunc_Diagonal__i_compareDiagonals_ok : FOK Try.prog n_slices_SortFunc_Diagonal slices_SortFunc_Diagonal__i_compareDiagonals_sh slices_SortFunc_Diagonal__i_compareDiagonals_fo slices_SortFunc_Diagonal__i_compareDiagonals :=
  fn_ok (E := slices_SortFunc_Diagonal__i_compareDiagonals_E) (slices_SortFunc_Diagonal__i_compareDiagonals_Eok) (told := slices_SortFunc_Diagonal__i_compareDiagonals_told) (fl := []) (c := bodyOf fn_slices_SortFunc_Diagonal) (s := slices_SortFunc_Diagonal__i_compareDiagonals_sh) (l := slices_SortFunc_Diagonal__i_compareDiagonals_fo) (tree := slices_SortFunc_Diagonal__i_compareDiagonals_t) fnat_slices_SortFunc_Diagonal (by kernel_rfl) (by kernel_rfl) (by kernel_rfl) (loopsOK_of (ls := []) (by kernel_rfl) trivial) (fun v => by kernel_rfl)

theorem slices_SortFunc_Diagonal__i_compareDiagonals_eq (l : List Dg) (hl : l.length ≤ 12) : slices_SortFunc_Diagonal__i_compareDiagonals (((), ()), l) = some ((), sortD l) := by
  have hw : wu64 (l.length : Int) = (l.length : Int) := IntWalk.u64_in _ ⟨by omega, by omega⟩
  have hz : math_bits_Len (wu64 (l.length : Int)) = some (Lib.bitLen l.length : Int) := by
    rw [hw]; unfold math_bits_Len; rw [if_pos ⟨by omega, by omega⟩, Int.toNat_natCast]
  have w0 : w64 ((l.length : Int) - 0) = (l.length : Int) := by rw [w64_id (by omega) (by omega)]; omega
  have w1 : w64 ((0 : Int) + 1) = ((1 : Nat) : Int) := by rw [w64_id (by omega) (by omega)]; rfl
  have c0 : (l.length : Int) ≤ 12 := by omega
  have hins : slices_insertionSortCmpFunc_Diagonal__i_compareDiagonals (((), ((0 : Int), ((l.length : Int), ()))), l) = some ((), sortD l) := by
    simp only [slices_insertionSortCmpFunc_Diagonal__i_compareDiagonals, slices_insertionSortCmpFunc_Diagonal__i_compareDiagonals_t, T.run, w1]
    by_cases h0 : l.length = 0
    · have : l = [] := List.eq_nil_of_length_eq_zero h0
      subst this
      simp only [slices_insertionSortCmpFunc_Diagonal__i_compareDiagonals_L1]
      rw [loopO_done (o := ((), []))]
      · simp [sortD]
      · simp [slices_insertionSortCmpFunc_Diagonal__i_compareDiagonals_L1_step, T.run]
    · rw [slices_insertionSortCmpFunc_Diagonal__i_compareDiagonals_isort (l.length - 1) 1 l (by omega) (by omega), isortD_eq]
      simp
  simp only [slices_SortFunc_Diagonal__i_compareDiagonals, slices_SortFunc_Diagonal__i_compareDiagonals_t, T.run, hz, Option.bind_some, slices_pdqsortCmpFunc_Diagonal__i_compareDiagonals, slices_pdqsortCmpFunc_Diagonal__i_compareDiagonals_t, slices_pdqsortCmpFunc_Diagonal__i_compareDiagonals_L2]
  rw [loopO_done (o := ((), sortD l))]
  · simp
  · simp only [slices_pdqsortCmpFunc_Diagonal__i_compareDiagonals_L2_step, T.run, w0, c0, decide_true, if_true, hins, Option.bind_some]
    simp


def slices_Equal_int_sh : FSh := ⟨[(.one (.sl (.int .i64) false false)), (.one (.sl (.int .i64) false false))], []⟩

def slices_Equal_int_L4_sh : LSh := ⟨(fun ex => match ex with | .norm => [(0, none), (1, none), (12, none), (13, none)] | .exit i => if i = 0 then [] else [] | .ret => [(4, none)]), [(0, (.one (.sl (.int .i64) false false))), (1, (.one (.sl (.int .i64) false false))), (12, (.one (.si .i64))), (13, (.one (.si .i64)))], [], [⟨.ret, [(4, (.one .sb))], []⟩, ⟨(.exit 0), [], []⟩], [], []⟩
noncomputable def slices_Equal_int_L4_step : (List (Int) × List (Int) × Int × Int) → T ((List (Int) × List (Int) × Int × Int) ⊕ (Bool ⊕ Unit)) := fun (s1, s2, t12, t13) =>
  (.test (decide (t13 < t12))
  (.test (decide ((0 ≤ t13) ∧ (t13 < ((List.length s1) : Int))))
   (.sub (s1[(Int.toNat t13)]?) fun z0 =>
    (.test (decide ((0 ≤ t13) ∧ (t13 < ((List.length s2) : Int))))
    (.sub (s2[(Int.toNat t13)]?) fun z1 =>
     (.test (z0 != z1)
     (.ret (Sum.inr (Sum.inl false)))
     (.ret (Sum.inl (s1, (s2, (t12, (w64 (t13 + 1)))))))))
    .fail))
   .fail)
  (.ret (Sum.inr (Sum.inr ()))))
noncomputable def slices_Equal_int_L4 (v : (List (Int) × List (Int) × Int × Int)) : Option (Bool ⊕ Unit) := loopO (fun v => (slices_Equal_int_L4_step v).run) v

def slices_Equal_int_fo : List FO := [⟨[(.one .sb)], []⟩]
noncomputable def slices_Equal_int_t : (List (Int) × List (Int)) → T Bool := fun (s1, s2) =>
  (.test (((List.length s1) : Int) != ((List.length s2) : Int))
  (.ret false)
  (.sub (slices_Equal_int_L4 (s1, (s2, (((List.length s1) : Int), (0 : Int))))) fun z0 =>
   (.test (Sum.isLeft z0)
   (.sub (Sum.getLeft? z0) fun z1 =>
    (.ret z1))
   (.sub (Sum.getRight? z0) fun z2 =>
    (.ret true)))))
noncomputable def slices_Equal_int (v : (List (Int) × List (Int))) : Option Bool := (slices_Equal_int_t v).run
noncomputable def slices_Equal_int_E : TEnv := E0
theorem slices_Equal_int_Eok : (slices_Equal_int_E).OK := E0ok
noncomputable def slices_Equal_int_told : Nat → Option SealT := fun id => if id = 4 then some (LSh.told slices_Equal_int_L4_sh 0 (slices_Equal_int_L4_step)) else none
theorem slices_Equal_int_L4_ok : ToldOK Try.prog 0 (loopAt (bodyOf fn_slices_Equal_int) [0]) (LSh.told slices_Equal_int_L4_sh 0 (slices_Equal_int_L4_step)) :=
  loop_ok (E := slices_Equal_int_E) (slices_Equal_int_Eok) (told := slices_Equal_int_told) (l := slices_Equal_int_L4_sh) (step := slices_Equal_int_L4_step) (loopsOK_of (ls := []) (by kernel_rfl) trivial) (by kernel_rfl) (fun v => by kernel_rfl)
theorem slices_Equal_int_ok : FOK Try.prog n_slices_Equal_int slices_Equal_int_sh slices_Equal_int_fo slices_Equal_int :=
  fn_ok (E := slices_Equal_int_E) (slices_Equal_int_Eok) (told := slices_Equal_int_told) (fl := []) (c := bodyOf fn_slices_Equal_int) (s := slices_Equal_int_sh) (l := slices_Equal_int_fo) (tree := slices_Equal_int_t) fnat_slices_Equal_int (by kernel_rfl) (by kernel_rfl) (by kernel_rfl) (loopsOK_of (ls := [loopAt (bodyOf fn_slices_Equal_int) [0]]) (by kernel_rfl) ⟨.inr ⟨_, by kernel_rfl, slices_Equal_int_L4_ok⟩, trivial⟩) (fun v => by kernel_rfl)

theorem slices_Equal_int_eq (a b : List Int) (hl : a.length < 4611686018427387904) : slices_Equal_int (a, b) = some (decide (a = b)) := by
  simp only [slices_Equal_int, slices_Equal_int_t, T.run]
  by_cases he : a.length = b.length
  · have h := loop_any (step := fun v => (slices_Equal_int_L4_step v).run) (xs := a.zip b) (fun p => p.1 != p.2) (fun k => (a, (b, ((a.length : Int), (k : Int))))) (.inl false) (.inr ())
      (fun k x hx => by
        obtain ⟨x1, x2⟩ := x
        rw [List.getElem?_zip_eq_some] at hx
        obtain ⟨h1, h2⟩ := hx
        simp only at h1 h2
        have hk := getElem?_lt h1
        have hk2 := getElem?_lt h2
        have c0 : (k : Int) < (a.length : Int) := by omega
        have c1 : (0 : Int) ≤ (k : Int) ∧ (k : Int) < (a.length : Int) := by omega
        have c2 : (0 : Int) ≤ (k : Int) ∧ (k : Int) < (b.length : Int) := by omega
        have w1 : w64 ((k : Int) + 1) = ((k + 1 : Nat) : Int) := by rw [w64_id (by omega) (by omega)]; omega
        simp only [slices_Equal_int_L4_step, T.run, c0, c1, c2, decide_true, if_true, and_self, Int.toNat_natCast, h1, h2, Option.bind_some, w1]
        cases x1 != x2 <;> simp)
      (by simp [slices_Equal_int_L4_step, T.run, he])
    simp only [Int.natCast_zero] at h
    rw [zip_any_ne a b he] at h
    have hne : ((a.length : Int) != (b.length : Int)) = false := by simp [he]
    simp only [slices_Equal_int_L4, h, hne]
    by_cases hab : a = b <;> simp [hab]
  · have : a ≠ b := fun e => he (by rw [e])
    have hne : ((a.length : Int) != (b.length : Int)) = true := by simp; omega
    simp [hne, this]


def i_isDiagonal_sh : FSh := ⟨[(.one (.si .i64)), (.ag [(.si .i64), (.si .i64)])], []⟩

def i_isDiagonal_fo : List FO := [⟨[(.one .sb)], []⟩]
noncomputable def i_isDiagonal_t : (Int × (Int × Int)) → T Bool := fun (n, (d_0, d_1)) =>
  (.sub (i_within (d_0, ((0 : Int), (w64 (n - 1))))) fun z0 =>
  (.test z0
  (.sub (i_within (d_1, ((0 : Int), (w64 (n - 1))))) fun z1 =>
   (.test z1
   (.test (decide ((w64 (d_1 - d_0)) > 1))
    (.test (d_0 == 0)
     (.ret (! (d_1 == (w64 (n - 1)))))
     (.ret true))
    (.ret false))
   (.ret false)))
  (.ret false)))
noncomputable def i_isDiagonal (v : (Int × (Int × Int))) : Option Bool := (i_isDiagonal_t v).run
noncomputable def i_isDiagonal_E : TEnv := (E0.add1 n_i_within i_within_sh i_within_fo i_within)
theorem i_isDiagonal_Eok : (i_isDiagonal_E).OK := (E0ok.add1 i_within_ok)
noncomputable def i_isDiagonal_told : Nat → Option SealT := fun id => none
theorem i_isDiagonal_ok : FOK Try.prog n_i_isDiagonal i_isDiagonal_sh i_isDiagonal_fo i_isDiagonal :=
  fn_ok (E := i_isDiagonal_E) (i_isDiagonal_Eok) (told := i_isDiagonal_told) (fl := []) (c := bodyOf fn_i_isDiagonal) (s := i_isDiagonal_sh) (l := i_isDiagonal_fo) (tree := i_isDiagonal_t) fnat_i_isDiagonal (by kernel_rfl) (by kernel_rfl) (by kernel_rfl) (loopsOK_of (ls := []) (by kernel_rfl) trivial) (fun v => by kernel_rfl)

theorem i_isDiagonal_eq (n : Int) (d : Dg) (h1 : 0 ≤ n) (h2 : n ≤ 1000000) : i_isDiagonal (n, d) = some (inDg n d) := by
  obtain ⟨a, b⟩ := d
  have w1 : w64 (n - 1) = n - 1 := w64_id (by omega) (by omega)
  simp only [i_isDiagonal, i_isDiagonal_t, T.run, i_within_eq, Option.bind_some, w1, inDg]
  cases ha : inB 0 (n - 1) a with
  | false => simp
  | true =>
    cases hb : inB 0 (n - 1) b with
    | false => simp
    | true =>
      rw [inB_iff] at ha hb
      have w2 : w64 (b - a) = b - a := w64_id (by omega) (by omega)
      rw [w2]
      by_cases h4 : a = 0
      · subst h4
        rw [Int.sub_zero]
        by_cases h5 : b > 1 <;> simp [h5, beq_int]
      · by_cases h5 : b - a > 1 <;> simp [h5, h4]


def i_doCross_sh : FSh := ⟨[(.ag [(.si .i64), (.si .i64)]), (.ag [(.si .i64), (.si .i64)])], []⟩

def i_doCross_fo : List FO := [⟨[(.one .sb)], []⟩]
noncomputable def i_doCross_t : ((Int × Int) × (Int × Int)) → T Bool := fun ((d_0, d_1), (e_0, e_1)) =>
  (.test (decide (d_0 < e_0))
  (.test (decide (e_0 < d_1))
   (.test (decide (d_1 < e_1))
    (.ret true)
    (.test (decide (e_0 < d_0))
     (.test (decide (d_0 < e_1))
      (.ret (decide (e_1 < d_1)))
      (.ret false))
     (.ret false)))
   (.test (decide (e_0 < d_0))
    (.test (decide (d_0 < e_1))
     (.ret (decide (e_1 < d_1)))
     (.ret false))
    (.ret false)))
  (.test (decide (e_0 < d_0))
   (.test (decide (d_0 < e_1))
    (.ret (decide (e_1 < d_1)))
    (.ret false))
   (.ret false)))
noncomputable def i_doCross (v : ((Int × Int) × (Int × Int))) : Option Bool := (i_doCross_t v).run
noncomputable def i_doCross_E : TEnv := E0
theorem i_doCross_Eok : (i_doCross_E).OK := E0ok
noncomputable def i_doCross_told : Nat → Option SealT := fun id => none
theorem i_doCross_ok : FOK Try.prog n_i_doCross i_doCross_sh i_doCross_fo i_doCross :=
  fn_ok (E := i_doCross_E) (i_doCross_Eok) (told := i_doCross_told) (fl := []) (c := bodyOf fn_i_doCross) (s := i_doCross_sh) (l := i_doCross_fo) (tree := i_doCross_t) fnat_i_doCross (by kernel_rfl) (by kernel_rfl) (by kernel_rfl) (loopsOK_of (ls := []) (by kernel_rfl) trivial) (fun v => by kernel_rfl)

theorem i_doCross_eq (d e : Dg) : i_doCross (d, e) = some (crossD d e) := by
  obtain ⟨a, b⟩ := d
  obtain ⟨c, f⟩ := e
  simp only [i_doCross, i_doCross_t, T.run, crossD]
  by_cases h1 : a < c <;> by_cases h2 : c < b <;> by_cases h3 : b < f <;> by_cases h4 : c < a <;> by_cases h5 : a < f <;> by_cases h6 : f < b <;> simp [h1, h2, h3, h4, h5, h6]


def i_IsTriangulation_1_sh : FSh := ⟨[(.ag [(.si .i64), (.si .i64)]), (.one (.pf 0 0 0))], [(.rcd 0 [(.si .i64), (.si .i64)])]⟩

def i_IsTriangulation_1_fo : List FO := [⟨[(.one .sb)], [(.rcd 0 [(.si .i64), (.si .i64)])]⟩]
noncomputable def i_IsTriangulation_1_t : (((Int × Int) × Unit) × (Int × Int)) → T (Bool × (Int × Int)) := fun (((e_0, e_1), ()), (t1_0, t1_1)) =>
  (.sub (i_doCross ((t1_0, t1_1), (e_0, e_1))) fun z0 =>
  (.ret (z0, (t1_0, t1_1))))
noncomputable def i_IsTriangulation_1 (v : (((Int × Int) × Unit) × (Int × Int))) : Option (Bool × (Int × Int)) := (i_IsTriangulation_1_t v).run
noncomputable def i_IsTriangulation_1_E : TEnv := (E0.add1 n_i_doCross i_doCross_sh i_doCross_fo i_doCross)
theorem i_IsTriangulation_1_Eok : (i_IsTriangulation_1_E).OK := (E0ok.add1 i_doCross_ok)
noncomputable def i_IsTriangulation_1_told : Nat → Option SealT := fun id => none
theorem i_IsTriangulation_1_ok : FOK Try.prog n_i_IsTriangulation_1 i_IsTriangulation_1_sh i_IsTriangulation_1_fo i_IsTriangulation_1 :=
  fn_ok (E := i_IsTriangulation_1_E) (i_IsTriangulation_1_Eok) (told := i_IsTriangulation_1_told) (fl := []) (c := bodyOf fn_i_IsTriangulation_1) (s := i_IsTriangulation_1_sh) (l := i_IsTriangulation_1_fo) (tree := i_IsTriangulation_1_t) fnat_i_IsTriangulation_1 (by kernel_rfl) (by kernel_rfl) (by kernel_rfl) (loopsOK_of (ls := []) (by kernel_rfl) trivial) (fun v => by kernel_rfl)

def slices_IndexFunc_Diagonal__i_IsTriangulation_1_sh : FSh := ⟨[(.one (.sl (.pair (.int .i64) (.int .i64)) false false)), (.clo n_i_IsTriangulation_1 [(.one (.pf 0 0 0))])], [(.rcd 0 [(.si .i64), (.si .i64)])]⟩

def slices_IndexFunc_Diagonal__i_IsTriangulation_1_L2_sh : LSh := ⟨(fun ex => match ex with | .norm => [(0, none), (1, none), (7, none), (8, none)] | .exit i => if i = 0 then [] else [] | .ret => [(4, none)]), [(0, (.one (.sl (.pair (.int .i64) (.int .i64)) false false))), (1, (.clo n_i_IsTriangulation_1 [(.one (.pf 0 0 0))])), (7, (.one (.si .i64))), (8, (.one (.si .i64)))], [(.rcd 0 [(.si .i64), (.si .i64)])], [⟨.ret, [(4, (.one (.si .i64)))], [(.rcd 0 [(.si .i64), (.si .i64)])]⟩, ⟨(.exit 0), [], [(.rcd 0 [(.si .i64), (.si .i64)])]⟩], [], []⟩
noncomputable def slices_IndexFunc_Diagonal__i_IsTriangulation_1_L2_step : ((List ((Int × Int)) × Unit × Int × Int) × (Int × Int)) → T (((List ((Int × Int)) × Unit × Int × Int) × (Int × Int)) ⊕ ((Int × (Int × Int)) ⊕ (Unit × (Int × Int)))) := fun ((s, (), t7, t8), (r0_0, r0_1)) =>
  (.test (decide (t8 < t7))
  (.test (decide ((0 ≤ t8) ∧ (t8 < ((List.length s) : Int))))
   (.sub (s[(Int.toNat t8)]?) fun z0 =>
    (.sub (i_IsTriangulation_1 (((z0.1, z0.2), ()), (r0_0, r0_1))) fun z1 =>
    (.test z1.1
    (.ret (Sum.inr (Sum.inl (t8, (z1.2.1, z1.2.2)))))
    (.ret (Sum.inl ((s, ((), (t7, (w64 (t8 + 1))))), (z1.2.1, z1.2.2)))))))
   .fail)
  (.ret (Sum.inr (Sum.inr ((), (r0_0, r0_1))))))
noncomputable def slices_IndexFunc_Diagonal__i_IsTriangulation_1_L2 (v : ((List ((Int × Int)) × Unit × Int × Int) × (Int × Int))) : Option ((Int × (Int × Int)) ⊕ (Unit × (Int × Int))) := loopO (fun v => (slices_IndexFunc_Diagonal__i_IsTriangulation_1_L2_step v).run) v

def slices_IndexFunc_Diagonal__i_IsTriangulation_1_fo : List FO := [⟨[(.one (.si .i64))], [(.rcd 0 [(.si .i64), (.si .i64)])]⟩]
noncomputable def slices_IndexFunc_Diagonal__i_IsTriangulation_1_t : ((List ((Int × Int)) × Unit) × (Int × Int)) → T (Int × (Int × Int)) := fun ((s, ()), (r0_0, r0_1)) =>
  (.sub (slices_IndexFunc_Diagonal__i_IsTriangulation_1_L2 ((s, ((), (((List.length s) : Int), (0 : Int)))), (r0_0, r0_1))) fun z0 =>
  (.test (Sum.isLeft z0)
  (.sub (Sum.getLeft? z0) fun z1 =>
   (.ret (z1.1, (z1.2.1, z1.2.2))))
  (.sub (Sum.getRight? z0) fun z2 =>
   (.ret ((-1), (z2.2.1, z2.2.2))))))
noncomputable def slices_IndexFunc_Diagonal__i_IsTriangulation_1 (v : ((List ((Int × Int)) × Unit) × (Int × Int))) : Option (Int × (Int × Int)) := (slices_IndexFunc_Diagonal__i_IsTriangulation_1_t v).run
noncomputable def slices_IndexFunc_Diagonal__i_IsTriangulation_1_E : TEnv := (E0.add1 n_i_IsTriangulation_1 i_IsTriangulation_1_sh i_IsTriangulation_1_fo i_IsTriangulation_1)
theorem slices_IndexFunc_Diagonal__i_IsTriangulation_1_Eok : (slices_IndexFunc_Diagonal__i_IsTriangulation_1_E).OK := (E0ok.add1 i_IsTriangulation_1_ok)
noncomputable def slices_IndexFunc_Diagonal__i_IsTriangulation_1_told : Nat → Option SealT := fun id => if id = 2 then some (LSh.told slices_IndexFunc_Diagonal__i_IsTriangulation_1_L2_sh 1 (slices_IndexFunc_Diagonal__i_IsTriangulation_1_L2_step)) else none
theorem slices_IndexFunc_Diagonal__i_IsTriangulation_1_L2_ok : ToldOK Try.prog 1 (loopAt (bodyOf fn_slices_IndexFunc_Diagonal) [0]) (LSh.told slices_IndexFunc_Diagonal__i_IsTriangulation_1_L2_sh 1 (slices_IndexFunc_Diagonal__i_IsTriangulation_1_L2_step)) :=
  loop_ok (E := slices_IndexFunc_Diagonal__i_IsTriangulation_1_E) (slices_IndexFunc_Diagonal__i_IsTriangulation_1_Eok) (told := slices_IndexFunc_Diagonal__i_IsTriangulation_1_told) (l := slices_IndexFunc_Diagonal__i_IsTriangulation_1_L2_sh) (step := slices_IndexFunc_Diagonal__i_IsTriangulation_1_L2_step) (loopsOK_of (ls := []) (by kernel_rfl) trivial) (by kernel_rfl) (fun v => by kernel_rfl)
theorem slices_IndexFunc_Diagonal__i_IsTriangulation_1_ok : FOK Try.prog n_slices_IndexFunc_Diagonal slices_IndexFunc_Diagonal__i_IsTriangulation_1_sh slices_IndexFunc_Diagonal__i_IsTriangulation_1_fo slices_IndexFunc_Diagonal__i_IsTriangulation_1 :=
  fn_ok (E := slices_IndexFunc_Diagonal__i_IsTriangulation_1_E) (slices_IndexFunc_Diagonal__i_IsTriangulation_1_Eok) (told := slices_IndexFunc_Diagonal__i_IsTriangulation_1_told) (fl := []) (c := bodyOf fn_slices_IndexFunc_Diagonal) (s := slices_IndexFunc_Diagonal__i_IsTriangulation_1_sh) (l := slices_IndexFunc_Diagonal__i_IsTriangulation_1_fo) (tree := slices_IndexFunc_Diagonal__i_IsTriangulation_1_t) fnat_slices_IndexFunc_Diagonal (by kernel_rfl) (by kernel_rfl) (by kernel_rfl) (loopsOK_of (ls := [loopAt (bodyOf fn_slices_IndexFunc_Diagonal) [0]]) (by kernel_rfl) ⟨.inr ⟨_, by kernel_rfl, slices_IndexFunc_Diagonal__i_IsTriangulation_1_L2_ok⟩, trivial⟩) (fun v => by kernel_rfl)

def slices_ContainsFunc_Diagonal__i_IsTriangulation_1_sh : FSh := ⟨[(.one (.sl (.pair (.int .i64) (.int .i64)) false false)), (.clo n_i_IsTriangulation_1 [(.one (.pf 0 0 0))])], [(.rcd 0 [(.si .i64), (.si .i64)])]⟩

def slices_ContainsFunc_Diagonal__i_IsTriangulation_1_fo : List FO := [⟨[(.one .sb)], [(.rcd 0 [(.si .i64), (.si .i64)])]⟩]
noncomputable def slices_ContainsFunc_Diagonal__i_IsTriangulation_1_t : ((List ((Int × Int)) × Unit) × (Int × Int)) → T (Bool × (Int × Int)) := fun ((s, ()), (r0_0, r0_1)) =>
  (.sub (slices_IndexFunc_Diagonal__i_IsTriangulation_1 ((s, ()), (r0_0, r0_1))) fun z0 =>
  (.ret ((decide (z0.1 ≥ 0)), (z0.2.1, z0.2.2))))
noncomputable def slices_ContainsFunc_Diagonal__i_IsTriangulation_1 (v : ((List ((Int × Int)) × Unit) × (Int × Int))) : Option (Bool × (Int × Int)) := (slices_ContainsFunc_Diagonal__i_IsTriangulation_1_t v).run
noncomputable def slices_ContainsFunc_Diagonal__i_IsTriangulation_1_E : TEnv := (E0.add1 n_slices_IndexFunc_Diagonal slices_IndexFunc_Diagonal__i_IsTriangulation_1_sh slices_IndexFunc_Diagonal__i_IsTriangulation_1_fo slices_IndexFunc_Diagonal__i_IsTriangulation_1)
theorem slices_ContainsFunc_Diagonal__i_IsTriangulation_1_Eok : (slices_ContainsFunc_Diagonal__i_IsTriangulation_1_E).OK := (E0ok.add1 slices_IndexFunc_Diagonal__i_IsTriangulation_1_ok)
noncomputable def slices_ContainsFunc_Diagonal__i_IsTriangulation_1_told : Nat → Option SealT := fun id => none
theorem slices_ContainsFunc_Diagonal__i_IsTriangulation_1_ok : FOK Try.prog n_slices_ContainsFunc_Diagonal slices_ContainsFunc_Diagonal__i_IsTriangulation_1_sh slices_ContainsFunc_Diagonal__i_IsTriangulation_1_fo slices_ContainsFunc_Diagonal__i_IsTriangulation_1 :=
  fn_ok (E := slices_ContainsFunc_Diagonal__i_IsTriangulation_1_E) (slices_ContainsFunc_Diagonal__i_IsTriangulation_1_Eok) (told := slices_ContainsFunc_Diagonal__i_IsTriangulation_1_told) (fl := []) (c := bodyOf fn_slices_ContainsFunc_Diagonal) (s := slices_ContainsFunc_Diagonal__i_IsTriangulation_1_sh) (l := slices_ContainsFunc_Diagonal__i_IsTriangulation_1_fo) (tree := slices_ContainsFunc_Diagonal__i_IsTriangulation_1_t) fnat_slices_ContainsFunc_Diagonal (by kernel_rfl) (by kernel_rfl) (by kernel_rfl) (loopsOK_of (ls := []) (by kernel_rfl) trivial) (fun v => by kernel_rfl)

theorem slices_ContainsFunc_Diagonal__i_IsTriangulation_1_eq (s : List Dg) (d : Dg) (hl : s.length < 4611686018427387904) : slices_ContainsFunc_Diagonal__i_IsTriangulation_1 ((s, ()), d) = some (s.any (crossD d), d) := by
  obtain ⟨a, b⟩ := d
  have hc : ∀ e : Dg, i_IsTriangulation_1 ((e, ()), (a, b)) = some (crossD (a, b) e, (a, b)) := by
    intro e
    obtain ⟨e0, e1⟩ := e
    simp [i_IsTriangulation_1, i_IsTriangulation_1_t, T.run, i_doCross_eq]
  have h := loop_find (step := fun v => (slices_IndexFunc_Diagonal__i_IsTriangulation_1_L2_step v).run) (xs := s) (crossD (a, b)) (fun k => ((s, ((), ((s.length : Int), (k : Int)))), (a, b))) (fun k => .inl ((k : Int), (a, b))) (.inr ((), (a, b)))
    (fun k x hx => by
      have hlt := getElem?_lt hx
      have h1 : (k : Int) < (s.length : Int) := by omega
      have h2 : (0 : Int) ≤ k ∧ (k : Int) < (s.length : Int) := by omega
      simp only [slices_IndexFunc_Diagonal__i_IsTriangulation_1_L2_step, T.run, Int.toNat_natCast, hx, Option.bind_some, h1, h2, decide_true, if_true, and_self, hc]
      rw [w64_id (z := (k : Int) + 1) (by omega) (by omega)]
      cases hv : crossD (a, b) x <;> simp)
    (by simp [slices_IndexFunc_Diagonal__i_IsTriangulation_1_L2_step, T.run])
  rw [show ((0 : Nat) : Int) = 0 from rfl] at h
  have hi : slices_IndexFunc_Diagonal__i_IsTriangulation_1 ((s, ()), (a, b)) = some (idxI (crossD (a, b)) s, (a, b)) := by
    simp only [slices_IndexFunc_Diagonal__i_IsTriangulation_1, slices_IndexFunc_Diagonal__i_IsTriangulation_1_t, T.run, slices_IndexFunc_Diagonal__i_IsTriangulation_1_L2]
    rw [h]
    simp only [idxI]
    cases hf : s.findIdx? (crossD (a, b)) <;> simp [Sum.isLeft]
  simp only [slices_ContainsFunc_Diagonal__i_IsTriangulation_1, slices_ContainsFunc_Diagonal__i_IsTriangulation_1_t, T.run, hi, Option.bind_some, idxI_ge]


end Go.Proofs.W
