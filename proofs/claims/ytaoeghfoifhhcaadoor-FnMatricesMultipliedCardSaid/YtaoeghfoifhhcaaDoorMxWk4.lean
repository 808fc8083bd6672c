/- Functions of the program, walked, and what they compute. -/
import Derived.Test.YtaoeghfoifhhcaaDoorMxWk3
set_option linter.unusedVariables false
set_option linter.unusedSimpArgs false
set_option maxRecDepth 100000
set_option maxHeartbeats 4000000
namespace Go.Proofs.W
open Go Go.Gm Go.Proofs
open Go.RowKit Go.Shelf
def l_FnMatricesMultiplied_sh : FSh := ⟨[(.one (.sl (.int .u8) false true)), (.one (.sl (.int .u8) false true))], []⟩

def l_FnMatricesMultiplied_R6_sh : LSh := ⟨(fun ex => match ex with | .norm => [(1, none), (5, none), (6, none), (7, none), (8, none), (112, none)] | .exit i => [] | .ret => [(4, none)]), [(1, (.one (.sl (.int .u8) false true))), (5, (.one (.pf 0 0 0))), (6, (.one (.pf 1 0 0))), (7, (.one (.pf 2 0 0))), (8, (.one .sb)), (9, (.one (.pf 3 0 0))), (10, (.one .sb))], [(.rcd 0 [(.si .i64), (.si .i64), (.si .i64), (.si .i64)]), (.rcd 0 [(.si .i64), (.si .i64), (.si .i64), (.si .i64)]), (.rcd 0 [(.si .i64), (.si .i64), (.si .i64), (.si .i64)]), (.rcd 0 [(.si .i64), (.si .i64), (.si .i64), (.si .i64)])], [⟨.norm, [(1, (.one (.sl (.int .u8) false true))), (5, (.one (.pf 0 0 0))), (6, (.one (.pf 1 0 0))), (7, (.one (.pf 2 0 0))), (8, (.one .sb)), (112, (.one .sb))], [(.rcd 0 [(.si .i64), (.si .i64), (.si .i64), (.si .i64)]), (.rcd 0 [(.si .i64), (.si .i64), (.si .i64), (.si .i64)]), (.rcd 0 [(.si .i64), (.si .i64), (.si .i64), (.si .i64)])]⟩], [], []⟩
noncomputable def l_FnMatricesMultiplied_R6_step : ((List (Int) × Unit × Unit × Unit × Bool × Unit × Bool) × ((Int × Int × Int × Int) × (Int × Int × Int × Int) × (Int × Int × Int × Int) × (Int × Int × Int × Int))) → T ((List (Int) × Unit × Unit × Unit × Bool × Bool) × ((Int × Int × Int × Int) × (Int × Int × Int × Int) × (Int × Int × Int × Int))) := fun ((more, (), (), (), ok, (), fine), ((m_0, m_1, m_2, m_3), (k_0, k_1, k_2, k_3), (product_0, product_1, product_2, product_3), (right_0, right_1, right_2, right_3))) =>
  (.test (! (ok == fine))
  (.ret ((more, ((), ((), ((), (ok, true))))), ((m_0, (m_1, (m_2, m_3))), ((k_0, (k_1, (k_2, k_3))), (product_0, (product_1, (product_2, product_3)))))))
  (.test (! ((product_0 == right_0) && ((product_1 == right_1) && ((product_2 == right_2) && ((product_3 == right_3) && true)))))
   (.ret ((more, ((), ((), ((), (ok, true))))), ((m_0, (m_1, (m_2, m_3))), ((k_0, (k_1, (k_2, k_3))), (product_0, (product_1, (product_2, product_3)))))))
   (.test ok
    (.sub (i_IsMatrix (product_0, (product_1, (product_2, product_3)))) fun z0 =>
     (.ret ((more, ((), ((), ((), (ok, (! z0)))))), ((m_0, (m_1, (m_2, m_3))), ((k_0, (k_1, (k_2, k_3))), (product_0, (product_1, (product_2, product_3))))))))
    (.ret ((more, ((), ((), ((), (ok, false))))), ((m_0, (m_1, (m_2, m_3))), ((k_0, (k_1, (k_2, k_3))), (product_0, (product_1, (product_2, product_3))))))))))
noncomputable def l_FnMatricesMultiplied_R6 (v : ((List (Int) × Unit × Unit × Unit × Bool × Unit × Bool) × ((Int × Int × Int × Int) × (Int × Int × Int × Int) × (Int × Int × Int × Int) × (Int × Int × Int × Int)))) : Option ((List (Int) × Unit × Unit × Unit × Bool × Bool) × ((Int × Int × Int × Int) × (Int × Int × Int × Int) × (Int × Int × Int × Int))) := (l_FnMatricesMultiplied_R6_step v).run

def l_FnMatricesMultiplied_R14_sh : LSh := ⟨(fun ex => match ex with | .norm => [(1, none), (5, none), (6, none), (19, none), (171, none)] | .exit i => [] | .ret => [(4, none)]), [(1, (.one (.sl (.int .u8) false true))), (5, (.one (.pf 0 0 0))), (6, (.one (.pf 1 0 0))), (7, (.one (.pf 2 0 0))), (12, (.one .sb)), (14, (.one .sb)), (15, (.one (.pf 3 0 0))), (16, (.one .sb)), (17, (.one (.pf 4 0 0))), (18, (.one .sb)), (19, (.one (.si .i64))), (20, (.one .sb))], [(.rcd 0 [(.si .i64), (.si .i64), (.si .i64), (.si .i64)]), (.rcd 0 [(.si .i64), (.si .i64), (.si .i64), (.si .i64)]), (.rcd 0 [(.si .i64), (.si .i64), (.si .i64), (.si .i64)]), (.rcd 0 [(.si .i64), (.si .i64), (.si .i64), (.si .i64)]), (.rcd 0 [(.si .i64), (.si .i64), (.si .i64), (.si .i64)])], [⟨.norm, [(1, (.one (.sl (.int .u8) false true))), (5, (.one (.pf 0 0 0))), (6, (.one (.pf 1 0 0))), (19, (.one (.si .i64))), (171, (.one .sb))], [(.rcd 0 [(.si .i64), (.si .i64), (.si .i64), (.si .i64)]), (.rcd 0 [(.si .i64), (.si .i64), (.si .i64), (.si .i64)])]⟩], [], []⟩
noncomputable def l_FnMatricesMultiplied_R14_step : ((List (Int) × Unit × Unit × Unit × Bool × Bool × Unit × Bool × Unit × Bool × Int × Bool) × ((Int × Int × Int × Int) × (Int × Int × Int × Int) × (Int × Int × Int × Int) × (Int × Int × Int × Int) × (Int × Int × Int × Int))) → T ((List (Int) × Unit × Unit × Int × Bool) × ((Int × Int × Int × Int) × (Int × Int × Int × Int))) := fun ((more, (), (), (), one, two, (), three, (), four, e, five), ((m_0, m_1, m_2, m_3), (k_0, k_1, k_2, k_3), (product_0, product_1, product_2, product_3), (c_0, c_1, c_2, c_3), (d_0, d_1, d_2, d_3))) =>
  (.test (! one)
  (.ret ((more, ((), ((), (e, true)))), ((m_0, (m_1, (m_2, m_3))), (k_0, (k_1, (k_2, k_3))))))
  (.test (! two)
   (.ret ((more, ((), ((), (e, true)))), ((m_0, (m_1, (m_2, m_3))), (k_0, (k_1, (k_2, k_3))))))
   (.test (! three)
    (.ret ((more, ((), ((), (e, true)))), ((m_0, (m_1, (m_2, m_3))), (k_0, (k_1, (k_2, k_3))))))
    (.test (! four)
     (.ret ((more, ((), ((), (e, true)))), ((m_0, (m_1, (m_2, m_3))), (k_0, (k_1, (k_2, k_3))))))
     (.test (! ((c_0 == d_0) && ((c_1 == d_1) && ((c_2 == d_2) && ((c_3 == d_3) && true)))))
      (.ret ((more, ((), ((), (e, true)))), ((m_0, (m_1, (m_2, m_3))), (k_0, (k_1, (k_2, k_3))))))
      (.test (! five)
       (.ret ((more, ((), ((), (e, true)))), ((m_0, (m_1, (m_2, m_3))), (k_0, (k_1, (k_2, k_3))))))
       (.ret ((more, ((), ((), (e, (e != (w64 (product_0 + product_3))))))), ((m_0, (m_1, (m_2, m_3))), (k_0, (k_1, (k_2, k_3))))))))))))
noncomputable def l_FnMatricesMultiplied_R14 (v : ((List (Int) × Unit × Unit × Unit × Bool × Bool × Unit × Bool × Unit × Bool × Int × Bool) × ((Int × Int × Int × Int) × (Int × Int × Int × Int) × (Int × Int × Int × Int) × (Int × Int × Int × Int) × (Int × Int × Int × Int)))) : Option ((List (Int) × Unit × Unit × Int × Bool) × ((Int × Int × Int × Int) × (Int × Int × Int × Int))) := (l_FnMatricesMultiplied_R14_step v).run

def l_FnMatricesMultiplied_R19_sh : LSh := ⟨(fun ex => match ex with | .norm => [(1, none), (190, none)] | .exit i => [] | .ret => [(4, none)]), [(1, (.one (.sl (.int .u8) false true))), (19, (.one (.si .i64))), (23, (.one (.si .i64))), (24, (.one .sb))], [], [⟨.norm, [(1, (.one (.sl (.int .u8) false true))), (190, (.one .sb))], []⟩], [], []⟩
noncomputable def l_FnMatricesMultiplied_R19_step : (List (Int) × Int × Int × Bool) → T (List (Int) × Bool) := fun (more, e, f, seven) =>
  (.test (! seven)
  (.ret (more, true))
  (.ret (more, (f != e))))
noncomputable def l_FnMatricesMultiplied_R19 (v : (List (Int) × Int × Int × Bool)) : Option (List (Int) × Bool) := (l_FnMatricesMultiplied_R19_step v).run

def l_FnMatricesMultiplied_C9_sh : LSh := ⟨(fun ex => match ex with | .norm => [(1, none)] | .exit i => [] | .ret => [(4, none)]), [(1, (.one (.sl (.int .u8) false true))), (5, (.one (.pf 0 0 0))), (6, (.one (.pf 1 0 0))), (7, (.one (.pf 2 0 0))), (8, (.one .sb))], [(.rcd 0 [(.si .i64), (.si .i64), (.si .i64), (.si .i64)]), (.rcd 0 [(.si .i64), (.si .i64), (.si .i64), (.si .i64)]), (.rcd 0 [(.si .i64), (.si .i64), (.si .i64), (.si .i64)])], [⟨.ret, [(4, (.one .sb))], []⟩, ⟨.norm, [(1, (.one (.sl (.int .u8) false true)))], []⟩], [], []⟩
noncomputable def l_FnMatricesMultiplied_C9_step : ((List (Int) × Unit × Unit × Unit × Bool) × ((Int × Int × Int × Int) × (Int × Int × Int × Int) × (Int × Int × Int × Int))) → T (Bool ⊕ List (Int)) := fun ((more, (), (), (), ok), ((m_0, m_1, m_2, m_3), (k_0, k_1, k_2, k_3), (product_0, product_1, product_2, product_3))) =>
  (.test ok
  (.sub (i_InverseMatrix (m_0, (m_1, (m_2, m_3)))) fun z0 =>
   (.sub (i_InverseMatrix (k_0, (k_1, (k_2, k_3)))) fun z1 =>
   (.sub (i_InverseMatrix (product_0, (product_1, (product_2, product_3)))) fun z2 =>
   (.sub (i_TimesMatrix ((z1.1.1, (z1.1.2.1, (z1.1.2.2.1, z1.1.2.2.2))), (z0.1.1, (z0.1.2.1, (z0.1.2.2.1, z0.1.2.2.2))))) fun z3 =>
   (.sub (i_TraceOf (product_0, (product_1, (product_2, product_3)))) fun z4 =>
   (.sub (l_FnMatricesMultiplied_R14 ((more, ((), ((), ((), (z0.2, (z1.2, ((), (z2.2, ((), (z3.2, (z4.1, z4.2))))))))))), ((m_0, (m_1, (m_2, m_3))), ((k_0, (k_1, (k_2, k_3))), ((product_0, (product_1, (product_2, product_3))), ((z2.1.1, (z2.1.2.1, (z2.1.2.2.1, z2.1.2.2.2))), (z3.1.1, (z3.1.2.1, (z3.1.2.2.1, z3.1.2.2.2))))))))) fun z5 =>
   (.test z5.1.2.2.2.2
   (.ret (Sum.inl false))
   (.sub (i_TimesMatrix ((z5.2.2.1, (z5.2.2.2.1, (z5.2.2.2.2.1, z5.2.2.2.2.2))), (z5.2.1.1, (z5.2.1.2.1, (z5.2.1.2.2.1, z5.2.1.2.2.2))))) fun z6 =>
    (.test z6.2
    (.sub (i_TraceOf (z6.1.1, (z6.1.2.1, (z6.1.2.2.1, z6.1.2.2.2)))) fun z7 =>
     (.sub (l_FnMatricesMultiplied_R19 (z5.1.1, (z5.1.2.2.2.1, (z7.1, z7.2)))) fun z8 =>
     (.test z8.2
     (.ret (Sum.inl false))
     (.ret (Sum.inr z8.1)))))
    (.ret (Sum.inr z5.1.1)))))))))))
  (.ret (Sum.inr more)))
noncomputable def l_FnMatricesMultiplied_C9 (v : ((List (Int) × Unit × Unit × Unit × Bool) × ((Int × Int × Int × Int) × (Int × Int × Int × Int) × (Int × Int × Int × Int)))) : Option (Bool ⊕ List (Int)) := (l_FnMatricesMultiplied_C9_step v).run

def l_FnMatricesMultiplied_R24_sh : LSh := ⟨(fun ex => match ex with | .norm => [(1, none), (25, none), (26, none), (27, none), (28, none), (215, none)] | .exit i => [] | .ret => [(4, none)]), [(1, (.one (.sl (.int .u8) false true))), (25, (.one (.pf 0 0 0))), (26, (.one (.si .i64))), (27, (.one (.pf 1 0 0))), (28, (.one .sb)), (29, (.one (.pf 2 0 0))), (30, (.one .sb))], [(.rcd 0 [(.si .i64), (.si .i64), (.si .i64), (.si .i64)]), (.rcd 0 [(.si .i64), (.si .i64), (.si .i64), (.si .i64)]), (.rcd 0 [(.si .i64), (.si .i64), (.si .i64), (.si .i64)])], [⟨.norm, [(1, (.one (.sl (.int .u8) false true))), (25, (.one (.pf 0 0 0))), (26, (.one (.si .i64))), (27, (.one (.pf 1 0 0))), (28, (.one .sb)), (215, (.one .sb))], [(.rcd 0 [(.si .i64), (.si .i64), (.si .i64), (.si .i64)]), (.rcd 0 [(.si .i64), (.si .i64), (.si .i64), (.si .i64)])]⟩], [], []⟩
noncomputable def l_FnMatricesMultiplied_R24_step : ((List (Int) × Unit × Int × Unit × Bool × Unit × Bool) × ((Int × Int × Int × Int) × (Int × Int × Int × Int) × (Int × Int × Int × Int))) → T ((List (Int) × Unit × Int × Unit × Bool × Bool) × ((Int × Int × Int × Int) × (Int × Int × Int × Int))) := fun ((more, (), n, (), one, (), two), ((p_0, p_1, p_2, p_3), (power_0, power_1, power_2, power_3), (want_0, want_1, want_2, want_3))) =>
  (.test (! (one == two))
  (.ret ((more, ((), (n, ((), (one, true))))), ((p_0, (p_1, (p_2, p_3))), (power_0, (power_1, (power_2, power_3))))))
  (.ret ((more, ((), (n, ((), (one, (! ((power_0 == want_0) && ((power_1 == want_1) && ((power_2 == want_2) && ((power_3 == want_3) && true)))))))))), ((p_0, (p_1, (p_2, p_3))), (power_0, (power_1, (power_2, power_3)))))))
noncomputable def l_FnMatricesMultiplied_R24 (v : ((List (Int) × Unit × Int × Unit × Bool × Unit × Bool) × ((Int × Int × Int × Int) × (Int × Int × Int × Int) × (Int × Int × Int × Int)))) : Option ((List (Int) × Unit × Int × Unit × Bool × Bool) × ((Int × Int × Int × Int) × (Int × Int × Int × Int))) := (l_FnMatricesMultiplied_R24_step v).run

def l_FnMatricesMultiplied_R29_sh : LSh := ⟨(fun ex => match ex with | .norm => [(1, none), (240, none)] | .exit i => [] | .ret => [(4, none)]), [(1, (.one (.sl (.int .u8) false true))), (32, (.one .sb)), (33, (.one (.pf 0 0 0))), (34, (.one .sb))], [(.rcd 0 [(.si .i64), (.si .i64), (.si .i64), (.si .i64)])], [⟨.norm, [(1, (.one (.sl (.int .u8) false true))), (240, (.one .sb))], []⟩], [], []⟩
noncomputable def l_FnMatricesMultiplied_R29_step : ((List (Int) × Bool × Unit × Bool) × (Int × Int × Int × Int)) → T (List (Int) × Bool) := fun ((more, three, (), four), (none'_0, none'_1, none'_2, none'_3)) =>
  (.test (! three)
  (.ret (more, true))
  (.test (! four)
   (.ret (more, true))
   (.ret (more, (! ((none'_0 == 1) && ((none'_1 == 0) && ((none'_2 == 0) && ((none'_3 == 1) && true)))))))))
noncomputable def l_FnMatricesMultiplied_R29 (v : ((List (Int) × Bool × Unit × Bool) × (Int × Int × Int × Int))) : Option (List (Int) × Bool) := (l_FnMatricesMultiplied_R29_step v).run

def l_FnMatricesMultiplied_C27_sh : LSh := ⟨(fun ex => match ex with | .norm => [(1, none)] | .exit i => [] | .ret => [(4, none)]), [(1, (.one (.sl (.int .u8) false true))), (25, (.one (.pf 0 0 0))), (26, (.one (.si .i64))), (27, (.one (.pf 1 0 0))), (28, (.one .sb))], [(.rcd 0 [(.si .i64), (.si .i64), (.si .i64), (.si .i64)]), (.rcd 0 [(.si .i64), (.si .i64), (.si .i64), (.si .i64)])], [⟨.ret, [(4, (.one .sb))], []⟩, ⟨.norm, [(1, (.one (.sl (.int .u8) false true)))], []⟩], [], []⟩
noncomputable def l_FnMatricesMultiplied_C27_step : ((List (Int) × Unit × Int × Unit × Bool) × ((Int × Int × Int × Int) × (Int × Int × Int × Int))) → T (Bool ⊕ List (Int)) := fun ((more, (), n, (), one), ((p_0, p_1, p_2, p_3), (power_0, power_1, power_2, power_3))) =>
  (.test one
  (.sub (i_PowerMatrix ((p_0, (p_1, (p_2, p_3))), (w64 (0 - n)))) fun z0 =>
   (.sub (i_TimesMatrix ((power_0, (power_1, (power_2, power_3))), (z0.1.1, (z0.1.2.1, (z0.1.2.2.1, z0.1.2.2.2))))) fun z1 =>
   (.sub (l_FnMatricesMultiplied_R29 ((more, (z0.2, ((), z1.2))), (z1.1.1, (z1.1.2.1, (z1.1.2.2.1, z1.1.2.2.2))))) fun z2 =>
   (.test z2.2
   (.ret (Sum.inl false))
   (.ret (Sum.inr z2.1))))))
  (.ret (Sum.inr more)))
noncomputable def l_FnMatricesMultiplied_C27 (v : ((List (Int) × Unit × Int × Unit × Bool) × ((Int × Int × Int × Int) × (Int × Int × Int × Int)))) : Option (Bool ⊕ List (Int)) := (l_FnMatricesMultiplied_C27_step v).run

def l_FnMatricesMultiplied_R44_sh : LSh := ⟨(fun ex => match ex with | .norm => [(1, none), (35, none), (36, none), (37, none), (40, none), (41, none), (44, none), (48, none), (52, none), (400, none)] | .exit i => [] | .ret => [(4, none)]), [(1, (.one (.sl (.int .u8) false true))), (35, (.one (.pf 0 0 0))), (36, (.one (.si .i64))), (37, (.one .sb)), (38, (.one (.si .i64))), (39, (.one .sb)), (40, (.one (.pf 1 0 0))), (41, (.one .sb)), (42, (.one (.pf 2 0 0))), (43, (.one .sb)), (44, (.one (.pf 3 0 0))), (45, (.one .sb)), (46, (.one (.pf 4 0 0))), (47, (.one .sb)), (48, (.one (.si .i64))), (49, (.one .sb)), (50, (.one (.si .i64))), (51, (.one .sb)), (52, (.one (.si .i64))), (53, (.one .sb)), (54, (.one (.si .i64))), (55, (.one .sb)), (56, (.one .ss)), (57, (.one .sb)), (58, (.one .ss)), (59, (.one .sb))], [(.rcd 0 [(.si .i64), (.si .i64), (.si .i64), (.si .i64)]), (.rcd 0 [(.si .i64), (.si .i64), (.si .i64), (.si .i64)]), (.rcd 0 [(.si .i64), (.si .i64), (.si .i64), (.si .i64)]), (.rcd 0 [(.si .i64), (.si .i64), (.si .i64), (.si .i64)]), (.rcd 0 [(.si .i64), (.si .i64), (.si .i64), (.si .i64)])], [⟨.norm, [(1, (.one (.sl (.int .u8) false true))), (35, (.one (.pf 0 0 0))), (36, (.one (.si .i64))), (37, (.one .sb)), (40, (.one (.pf 1 0 0))), (41, (.one .sb)), (44, (.one (.pf 2 0 0))), (48, (.one (.si .i64))), (52, (.one (.si .i64))), (400, (.one .sb))], [(.rcd 0 [(.si .i64), (.si .i64), (.si .i64), (.si .i64)]), (.rcd 0 [(.si .i64), (.si .i64), (.si .i64), (.si .i64)]), (.rcd 0 [(.si .i64), (.si .i64), (.si .i64), (.si .i64)])]⟩], [], []⟩
noncomputable def l_FnMatricesMultiplied_R44_step : ((List (Int) × Unit × Int × Bool × Int × Bool × Unit × Bool × Unit × Bool × Unit × Bool × Unit × Bool × Int × Bool × Int × Bool × Int × Bool × Int × Bool × List UInt8 × Bool × List UInt8 × Bool) × ((Int × Int × Int × Int) × (Int × Int × Int × Int) × (Int × Int × Int × Int) × (Int × Int × Int × Int) × (Int × Int × Int × Int))) → T ((List (Int) × Unit × Int × Bool × Unit × Bool × Unit × Int × Int × Bool) × ((Int × Int × Int × Int) × (Int × Int × Int × Int) × (Int × Int × Int × Int))) := fun ((more, (), order, three, model, four, (), five, (), six, (), seven, (), eight, trace, nine, number, ten, sign, eleven, own, twelve, text, thirteen, shown, fourteen), ((q_0, q_1, q_2, q_3), (inverse_0, inverse_1, inverse_2, inverse_3), (value_0, value_1, value_2, value_3), (negative_0, negative_1, negative_2, negative_3), (due_0, due_1, due_2, due_3))) =>
  (.test (! (three == four))
  (.ret ((more, ((), (order, (three, ((), (five, ((), (trace, (sign, true))))))))), ((q_0, (q_1, (q_2, q_3))), ((inverse_0, (inverse_1, (inverse_2, inverse_3))), (negative_0, (negative_1, (negative_2, negative_3)))))))
  (.test (order != model)
   (.ret ((more, ((), (order, (three, ((), (five, ((), (trace, (sign, true))))))))), ((q_0, (q_1, (q_2, q_3))), ((inverse_0, (inverse_1, (inverse_2, inverse_3))), (negative_0, (negative_1, (negative_2, negative_3)))))))
   (.test (! (five == six))
    (.ret ((more, ((), (order, (three, ((), (five, ((), (trace, (sign, true))))))))), ((q_0, (q_1, (q_2, q_3))), ((inverse_0, (inverse_1, (inverse_2, inverse_3))), (negative_0, (negative_1, (negative_2, negative_3)))))))
    (.test (! ((inverse_0 == value_0) && ((inverse_1 == value_1) && ((inverse_2 == value_2) && ((inverse_3 == value_3) && true)))))
     (.ret ((more, ((), (order, (three, ((), (five, ((), (trace, (sign, true))))))))), ((q_0, (q_1, (q_2, q_3))), ((inverse_0, (inverse_1, (inverse_2, inverse_3))), (negative_0, (negative_1, (negative_2, negative_3)))))))
     (.test (! (seven == eight))
      (.ret ((more, ((), (order, (three, ((), (five, ((), (trace, (sign, true))))))))), ((q_0, (q_1, (q_2, q_3))), ((inverse_0, (inverse_1, (inverse_2, inverse_3))), (negative_0, (negative_1, (negative_2, negative_3)))))))
      (.test (! ((negative_0 == due_0) && ((negative_1 == due_1) && ((negative_2 == due_2) && ((negative_3 == due_3) && true)))))
       (.ret ((more, ((), (order, (three, ((), (five, ((), (trace, (sign, true))))))))), ((q_0, (q_1, (q_2, q_3))), ((inverse_0, (inverse_1, (inverse_2, inverse_3))), (negative_0, (negative_1, (negative_2, negative_3)))))))
       (.test (! (nine == ten))
        (.ret ((more, ((), (order, (three, ((), (five, ((), (trace, (sign, true))))))))), ((q_0, (q_1, (q_2, q_3))), ((inverse_0, (inverse_1, (inverse_2, inverse_3))), (negative_0, (negative_1, (negative_2, negative_3)))))))
        (.test (trace != number)
         (.ret ((more, ((), (order, (three, ((), (five, ((), (trace, (sign, true))))))))), ((q_0, (q_1, (q_2, q_3))), ((inverse_0, (inverse_1, (inverse_2, inverse_3))), (negative_0, (negative_1, (negative_2, negative_3)))))))
         (.test (! (eleven == twelve))
          (.ret ((more, ((), (order, (three, ((), (five, ((), (trace, (sign, true))))))))), ((q_0, (q_1, (q_2, q_3))), ((inverse_0, (inverse_1, (inverse_2, inverse_3))), (negative_0, (negative_1, (negative_2, negative_3)))))))
          (.test (sign != own)
           (.ret ((more, ((), (order, (three, ((), (five, ((), (trace, (sign, true))))))))), ((q_0, (q_1, (q_2, q_3))), ((inverse_0, (inverse_1, (inverse_2, inverse_3))), (negative_0, (negative_1, (negative_2, negative_3)))))))
           (.test (! (thirteen == fourteen))
            (.ret ((more, ((), (order, (three, ((), (five, ((), (trace, (sign, true))))))))), ((q_0, (q_1, (q_2, q_3))), ((inverse_0, (inverse_1, (inverse_2, inverse_3))), (negative_0, (negative_1, (negative_2, negative_3)))))))
            (.test (! (text == shown))
             (.ret ((more, ((), (order, (three, ((), (five, ((), (trace, (sign, true))))))))), ((q_0, (q_1, (q_2, q_3))), ((inverse_0, (inverse_1, (inverse_2, inverse_3))), (negative_0, (negative_1, (negative_2, negative_3)))))))
             (.sub (i_IsMatrix (q_0, (q_1, (q_2, q_3)))) fun z0 =>
              (.test (! (five == z0))
              (.ret ((more, ((), (order, (three, ((), (five, ((), (trace, (sign, true))))))))), ((q_0, (q_1, (q_2, q_3))), ((inverse_0, (inverse_1, (inverse_2, inverse_3))), (negative_0, (negative_1, (negative_2, negative_3)))))))
              (.sub (i_IsMatrix (q_0, (q_1, (q_2, q_3)))) fun z1 =>
               (.sub (s_IsMatrix (q_0, (q_1, (q_2, q_3)))) fun z2 =>
               (.test (! (z1 == z2))
               (.ret ((more, ((), (order, (three, ((), (five, ((), (trace, (sign, true))))))))), ((q_0, (q_1, (q_2, q_3))), ((inverse_0, (inverse_1, (inverse_2, inverse_3))), (negative_0, (negative_1, (negative_2, negative_3)))))))
               (.test (! (seven == five))
                (.ret ((more, ((), (order, (three, ((), (five, ((), (trace, (sign, true))))))))), ((q_0, (q_1, (q_2, q_3))), ((inverse_0, (inverse_1, (inverse_2, inverse_3))), (negative_0, (negative_1, (negative_2, negative_3)))))))
                (.test (! (nine == five))
                 (.ret ((more, ((), (order, (three, ((), (five, ((), (trace, (sign, true))))))))), ((q_0, (q_1, (q_2, q_3))), ((inverse_0, (inverse_1, (inverse_2, inverse_3))), (negative_0, (negative_1, (negative_2, negative_3)))))))
                 (.test (! (eleven == five))
                  (.ret ((more, ((), (order, (three, ((), (five, ((), (trace, (sign, true))))))))), ((q_0, (q_1, (q_2, q_3))), ((inverse_0, (inverse_1, (inverse_2, inverse_3))), (negative_0, (negative_1, (negative_2, negative_3)))))))
                  (.test (! (thirteen == five))
                   (.ret ((more, ((), (order, (three, ((), (five, ((), (trace, (sign, true))))))))), ((q_0, (q_1, (q_2, q_3))), ((inverse_0, (inverse_1, (inverse_2, inverse_3))), (negative_0, (negative_1, (negative_2, negative_3)))))))
                   (.test three
                    (.ret ((more, ((), (order, (three, ((), (five, ((), (trace, (sign, (! five)))))))))), ((q_0, (q_1, (q_2, q_3))), ((inverse_0, (inverse_1, (inverse_2, inverse_3))), (negative_0, (negative_1, (negative_2, negative_3)))))))
                    (.ret ((more, ((), (order, (three, ((), (five, ((), (trace, (sign, false))))))))), ((q_0, (q_1, (q_2, q_3))), ((inverse_0, (inverse_1, (inverse_2, inverse_3))), (negative_0, (negative_1, (negative_2, negative_3)))))))))))))))))))))))))))))
noncomputable def l_FnMatricesMultiplied_R44 (v : ((List (Int) × Unit × Int × Bool × Int × Bool × Unit × Bool × Unit × Bool × Unit × Bool × Unit × Bool × Int × Bool × Int × Bool × Int × Bool × Int × Bool × List UInt8 × Bool × List UInt8 × Bool) × ((Int × Int × Int × Int) × (Int × Int × Int × Int) × (Int × Int × Int × Int) × (Int × Int × Int × Int) × (Int × Int × Int × Int)))) : Option ((List (Int) × Unit × Int × Bool × Unit × Bool × Unit × Int × Int × Bool) × ((Int × Int × Int × Int) × (Int × Int × Int × Int) × (Int × Int × Int × Int))) := (l_FnMatricesMultiplied_R44_step v).run

def l_FnMatricesMultiplied_R48_sh : LSh := ⟨(fun ex => match ex with | .norm => [(1, none), (35, none), (37, none), (40, none), (41, none), (44, none), (48, none), (52, none), (430, none)] | .exit i => [] | .ret => [(4, none)]), [(1, (.one (.sl (.int .u8) false true))), (35, (.one (.pf 0 0 0))), (36, (.one (.si .i64))), (37, (.one .sb)), (40, (.one (.pf 1 0 0))), (41, (.one .sb)), (44, (.one (.pf 2 0 0))), (48, (.one (.si .i64))), (52, (.one (.si .i64))), (60, (.one (.pf 3 0 0))), (61, (.one .sb))], [(.rcd 0 [(.si .i64), (.si .i64), (.si .i64), (.si .i64)]), (.rcd 0 [(.si .i64), (.si .i64), (.si .i64), (.si .i64)]), (.rcd 0 [(.si .i64), (.si .i64), (.si .i64), (.si .i64)]), (.rcd 0 [(.si .i64), (.si .i64), (.si .i64), (.si .i64)])], [⟨.norm, [(1, (.one (.sl (.int .u8) false true))), (35, (.one (.pf 0 0 0))), (37, (.one .sb)), (40, (.one (.pf 1 0 0))), (41, (.one .sb)), (44, (.one (.pf 2 0 0))), (48, (.one (.si .i64))), (52, (.one (.si .i64))), (430, (.one .sb))], [(.rcd 0 [(.si .i64), (.si .i64), (.si .i64), (.si .i64)]), (.rcd 0 [(.si .i64), (.si .i64), (.si .i64), (.si .i64)]), (.rcd 0 [(.si .i64), (.si .i64), (.si .i64), (.si .i64)])]⟩], [], []⟩
noncomputable def l_FnMatricesMultiplied_R48_step : ((List (Int) × Unit × Int × Bool × Unit × Bool × Unit × Int × Int × Unit × Bool) × ((Int × Int × Int × Int) × (Int × Int × Int × Int) × (Int × Int × Int × Int) × (Int × Int × Int × Int))) → T ((List (Int) × Unit × Bool × Unit × Bool × Unit × Int × Int × Bool) × ((Int × Int × Int × Int) × (Int × Int × Int × Int) × (Int × Int × Int × Int))) := fun ((more, (), order, three, (), five, (), trace, sign, (), fifteen), ((q_0, q_1, q_2, q_3), (inverse_0, inverse_1, inverse_2, inverse_3), (negative_0, negative_1, negative_2, negative_3), (power_0, power_1, power_2, power_3))) =>
  (.test (! fifteen)
  (.ret ((more, ((), (three, ((), (five, ((), (trace, (sign, true)))))))), ((q_0, (q_1, (q_2, q_3))), ((inverse_0, (inverse_1, (inverse_2, inverse_3))), (negative_0, (negative_1, (negative_2, negative_3)))))))
  (.test (! ((power_0 == 1) && ((power_1 == 0) && ((power_2 == 0) && ((power_3 == 1) && true)))))
   (.ret ((more, ((), (three, ((), (five, ((), (trace, (sign, true)))))))), ((q_0, (q_1, (q_2, q_3))), ((inverse_0, (inverse_1, (inverse_2, inverse_3))), (negative_0, (negative_1, (negative_2, negative_3)))))))
   (.test (order == 5)
    (.ret ((more, ((), (three, ((), (five, ((), (trace, (sign, true)))))))), ((q_0, (q_1, (q_2, q_3))), ((inverse_0, (inverse_1, (inverse_2, inverse_3))), (negative_0, (negative_1, (negative_2, negative_3)))))))
    (.test (decide (order > 6))
     (.ret ((more, ((), (three, ((), (five, ((), (trace, (sign, true)))))))), ((q_0, (q_1, (q_2, q_3))), ((inverse_0, (inverse_1, (inverse_2, inverse_3))), (negative_0, (negative_1, (negative_2, negative_3)))))))
     (.test (decide (order > 2))
      (.ret ((more, ((), (three, ((), (five, ((), (trace, (sign, (sign != (-1)))))))))), ((q_0, (q_1, (q_2, q_3))), ((inverse_0, (inverse_1, (inverse_2, inverse_3))), (negative_0, (negative_1, (negative_2, negative_3)))))))
      (.ret ((more, ((), (three, ((), (five, ((), (trace, (sign, false)))))))), ((q_0, (q_1, (q_2, q_3))), ((inverse_0, (inverse_1, (inverse_2, inverse_3))), (negative_0, (negative_1, (negative_2, negative_3))))))))))))
noncomputable def l_FnMatricesMultiplied_R48 (v : ((List (Int) × Unit × Int × Bool × Unit × Bool × Unit × Int × Int × Unit × Bool) × ((Int × Int × Int × Int) × (Int × Int × Int × Int) × (Int × Int × Int × Int) × (Int × Int × Int × Int)))) : Option ((List (Int) × Unit × Bool × Unit × Bool × Unit × Int × Int × Bool) × ((Int × Int × Int × Int) × (Int × Int × Int × Int) × (Int × Int × Int × Int))) := (l_FnMatricesMultiplied_R48_step v).run

def l_FnMatricesMultiplied_C47_sh : LSh := ⟨(fun ex => match ex with | .norm => [(1, none), (35, none), (37, none), (40, none), (41, none), (44, none), (48, none), (52, none)] | .exit i => [] | .ret => [(4, none)]), [(1, (.one (.sl (.int .u8) false true))), (35, (.one (.pf 0 0 0))), (36, (.one (.si .i64))), (37, (.one .sb)), (40, (.one (.pf 1 0 0))), (41, (.one .sb)), (44, (.one (.pf 2 0 0))), (48, (.one (.si .i64))), (52, (.one (.si .i64)))], [(.rcd 0 [(.si .i64), (.si .i64), (.si .i64), (.si .i64)]), (.rcd 0 [(.si .i64), (.si .i64), (.si .i64), (.si .i64)]), (.rcd 0 [(.si .i64), (.si .i64), (.si .i64), (.si .i64)])], [⟨.ret, [(4, (.one .sb))], []⟩, ⟨.norm, [(1, (.one (.sl (.int .u8) false true))), (35, (.one (.pf 0 0 0))), (37, (.one .sb)), (40, (.one (.pf 1 0 0))), (41, (.one .sb)), (44, (.one (.pf 2 0 0))), (48, (.one (.si .i64))), (52, (.one (.si .i64)))], [(.rcd 0 [(.si .i64), (.si .i64), (.si .i64), (.si .i64)]), (.rcd 0 [(.si .i64), (.si .i64), (.si .i64), (.si .i64)]), (.rcd 0 [(.si .i64), (.si .i64), (.si .i64), (.si .i64)])]⟩], [], []⟩
noncomputable def l_FnMatricesMultiplied_C47_step : ((List (Int) × Unit × Int × Bool × Unit × Bool × Unit × Int × Int) × ((Int × Int × Int × Int) × (Int × Int × Int × Int) × (Int × Int × Int × Int))) → T (Bool ⊕ ((List (Int) × Unit × Bool × Unit × Bool × Unit × Int × Int) × ((Int × Int × Int × Int) × (Int × Int × Int × Int) × (Int × Int × Int × Int)))) := fun ((more, (), order, three, (), five, (), trace, sign), ((q_0, q_1, q_2, q_3), (inverse_0, inverse_1, inverse_2, inverse_3), (negative_0, negative_1, negative_2, negative_3))) =>
  (.test three
  (.sub (i_PowerMatrix ((q_0, (q_1, (q_2, q_3))), order)) fun z0 =>
   (.sub (l_FnMatricesMultiplied_R48 ((more, ((), (order, (three, ((), (five, ((), (trace, (sign, ((), z0.2)))))))))), ((q_0, (q_1, (q_2, q_3))), ((inverse_0, (inverse_1, (inverse_2, inverse_3))), ((negative_0, (negative_1, (negative_2, negative_3))), (z0.1.1, (z0.1.2.1, (z0.1.2.2.1, z0.1.2.2.2)))))))) fun z1 =>
   (.test z1.1.2.2.2.2.2.2.2.2
   (.ret (Sum.inl false))
   (.ret (Sum.inr ((z1.1.1, ((), (z1.1.2.2.1, ((), (z1.1.2.2.2.2.1, ((), (z1.1.2.2.2.2.2.2.1, z1.1.2.2.2.2.2.2.2.1))))))), ((z1.2.1.1, (z1.2.1.2.1, (z1.2.1.2.2.1, z1.2.1.2.2.2))), ((z1.2.2.1.1, (z1.2.2.1.2.1, (z1.2.2.1.2.2.1, z1.2.2.1.2.2.2))), (z1.2.2.2.1, (z1.2.2.2.2.1, (z1.2.2.2.2.2.1, z1.2.2.2.2.2.2)))))))))))
  (.ret (Sum.inr ((more, ((), (three, ((), (five, ((), (trace, sign))))))), ((q_0, (q_1, (q_2, q_3))), ((inverse_0, (inverse_1, (inverse_2, inverse_3))), (negative_0, (negative_1, (negative_2, negative_3)))))))))
noncomputable def l_FnMatricesMultiplied_C47 (v : ((List (Int) × Unit × Int × Bool × Unit × Bool × Unit × Int × Int) × ((Int × Int × Int × Int) × (Int × Int × Int × Int) × (Int × Int × Int × Int)))) : Option (Bool ⊕ ((List (Int) × Unit × Bool × Unit × Bool × Unit × Int × Int) × ((Int × Int × Int × Int) × (Int × Int × Int × Int) × (Int × Int × Int × Int)))) := (l_FnMatricesMultiplied_C47_step v).run

def l_FnMatricesMultiplied_R53_sh : LSh := ⟨(fun ex => match ex with | .norm => [(1, none), (487, none)] | .exit i => [] | .ret => [(4, none)]), [(1, (.one (.sl (.int .u8) false true))), (35, (.one (.pf 0 0 0))), (37, (.one .sb)), (48, (.one (.si .i64))), (52, (.one (.si .i64))), (62, (.one (.pf 1 0 0))), (63, (.one .sb)), (64, (.one (.pf 2 0 0))), (65, (.one .sb))], [(.rcd 0 [(.si .i64), (.si .i64), (.si .i64), (.si .i64)]), (.rcd 0 [(.si .i64), (.si .i64), (.si .i64), (.si .i64)]), (.rcd 0 [(.si .i64), (.si .i64), (.si .i64), (.si .i64)])], [⟨.norm, [(1, (.one (.sl (.int .u8) false true))), (487, (.one .sb))], []⟩], [], []⟩
noncomputable def l_FnMatricesMultiplied_R53_step : ((List (Int) × Unit × Bool × Int × Int × Unit × Bool × Unit × Bool) × ((Int × Int × Int × Int) × (Int × Int × Int × Int) × (Int × Int × Int × Int))) → T (List (Int) × Bool) := fun ((more, (), three, trace, sign, (), fifteen, (), sixteen), ((q_0, q_1, q_2, q_3), (back_0, back_1, back_2, back_3), (twice_0, twice_1, twice_2, twice_3))) =>
  (.test (! fifteen)
  (.ret (more, true))
  (.test (! ((back_0 == q_0) && ((back_1 == q_1) && ((back_2 == q_2) && ((back_3 == q_3) && true)))))
   (.ret (more, true))
   (.test (! sixteen)
    (.ret (more, true))
    (.test (! ((twice_0 == q_0) && ((twice_1 == q_1) && ((twice_2 == q_2) && ((twice_3 == q_3) && true)))))
     (.ret (more, true))
     (.test (sign == (-1))
      (.test (! three)
       (.ret (more, true))
       (.test (sign == (-1))
        (.test (decide ((w64 (trace * trace)) ≥ 4))
         (.ret (more, true))
         (.test (sign == 0)
          (.test (trace != 2)
           (.ret (more, (trace != (-2))))
           (.ret (more, false)))
          (.ret (more, false))))
        (.test (sign == 0)
         (.test (trace != 2)
          (.ret (more, (trace != (-2))))
          (.ret (more, false)))
         (.ret (more, false)))))
      (.test (sign == (-1))
       (.test (decide ((w64 (trace * trace)) ≥ 4))
        (.ret (more, true))
        (.test (sign == 0)
         (.test (trace != 2)
          (.ret (more, (trace != (-2))))
          (.ret (more, false)))
         (.ret (more, false))))
       (.test (sign == 0)
        (.test (trace != 2)
         (.ret (more, (trace != (-2))))
         (.ret (more, false)))
        (.ret (more, false)))))))))
noncomputable def l_FnMatricesMultiplied_R53 (v : ((List (Int) × Unit × Bool × Int × Int × Unit × Bool × Unit × Bool) × ((Int × Int × Int × Int) × (Int × Int × Int × Int) × (Int × Int × Int × Int)))) : Option (List (Int) × Bool) := (l_FnMatricesMultiplied_R53_step v).run

def l_FnMatricesMultiplied_C51_sh : LSh := ⟨(fun ex => match ex with | .norm => [(1, none)] | .exit i => [] | .ret => [(4, none)]), [(1, (.one (.sl (.int .u8) false true))), (35, (.one (.pf 0 0 0))), (37, (.one .sb)), (40, (.one (.pf 1 0 0))), (41, (.one .sb)), (44, (.one (.pf 2 0 0))), (48, (.one (.si .i64))), (52, (.one (.si .i64)))], [(.rcd 0 [(.si .i64), (.si .i64), (.si .i64), (.si .i64)]), (.rcd 0 [(.si .i64), (.si .i64), (.si .i64), (.si .i64)]), (.rcd 0 [(.si .i64), (.si .i64), (.si .i64), (.si .i64)])], [⟨.ret, [(4, (.one .sb))], []⟩, ⟨.norm, [(1, (.one (.sl (.int .u8) false true)))], []⟩], [], []⟩
noncomputable def l_FnMatricesMultiplied_C51_step : ((List (Int) × Unit × Bool × Unit × Bool × Unit × Int × Int) × ((Int × Int × Int × Int) × (Int × Int × Int × Int) × (Int × Int × Int × Int))) → T (Bool ⊕ List (Int)) := fun ((more, (), three, (), five, (), trace, sign), ((q_0, q_1, q_2, q_3), (inverse_0, inverse_1, inverse_2, inverse_3), (negative_0, negative_1, negative_2, negative_3))) =>
  (.test five
  (.sub (i_InverseMatrix (inverse_0, (inverse_1, (inverse_2, inverse_3)))) fun z0 =>
   (.sub (i_NegateMatrix (negative_0, (negative_1, (negative_2, negative_3)))) fun z1 =>
   (.sub (l_FnMatricesMultiplied_R53 ((more, ((), (three, (trace, (sign, ((), (z0.2, ((), z1.2)))))))), ((q_0, (q_1, (q_2, q_3))), ((z0.1.1, (z0.1.2.1, (z0.1.2.2.1, z0.1.2.2.2))), (z1.1.1, (z1.1.2.1, (z1.1.2.2.1, z1.1.2.2.2))))))) fun z2 =>
   (.test z2.2
   (.ret (Sum.inl false))
   (.ret (Sum.inr z2.1))))))
  (.ret (Sum.inr more)))
noncomputable def l_FnMatricesMultiplied_C51 (v : ((List (Int) × Unit × Bool × Unit × Bool × Unit × Int × Int) × ((Int × Int × Int × Int) × (Int × Int × Int × Int) × (Int × Int × Int × Int)))) : Option (Bool ⊕ List (Int)) := (l_FnMatricesMultiplied_C51_step v).run

def l_FnMatricesMultiplied_R58_sh : LSh := ⟨(fun ex => match ex with | .norm => [(66, none), (67, none), (69, none), (70, none), (515, none)] | .exit i => [] | .ret => [(4, none)]), [(66, (.one (.pf 0 0 0))), (67, (.one (.pf 1 0 0))), (69, (.one .sb)), (70, (.one .sb)), (71, (.one .sb)), (72, (.one .sb))], [(.rcd 0 [(.si .i64), (.si .i64), (.si .i64), (.si .i64)]), (.rcd 0 [(.si .i64), (.si .i64), (.si .i64), (.si .i64)])], [⟨.norm, [(66, (.one (.pf 0 0 0))), (67, (.one (.pf 1 0 0))), (69, (.one .sb)), (70, (.one .sb)), (515, (.one .sb))], [(.rcd 0 [(.si .i64), (.si .i64), (.si .i64), (.si .i64)]), (.rcd 0 [(.si .i64), (.si .i64), (.si .i64), (.si .i64)])]⟩], [], []⟩
noncomputable def l_FnMatricesMultiplied_R58_step : ((Unit × Unit × Bool × Bool × Bool × Bool) × ((Int × Int × Int × Int) × (Int × Int × Int × Int))) → T ((Unit × Unit × Bool × Bool × Bool) × ((Int × Int × Int × Int) × (Int × Int × Int × Int))) := fun (((), (), is, fifteen, list, sixteen), ((x_0, x_1, x_2, x_3), (y_0, y_1, y_2, y_3))) =>
  (.test (! (fifteen == sixteen))
  (.ret (((), ((), (is, (fifteen, true)))), ((x_0, (x_1, (x_2, x_3))), (y_0, (y_1, (y_2, y_3))))))
  (.ret (((), ((), (is, (fifteen, (! (is == list)))))), ((x_0, (x_1, (x_2, x_3))), (y_0, (y_1, (y_2, y_3)))))))
noncomputable def l_FnMatricesMultiplied_R58 (v : ((Unit × Unit × Bool × Bool × Bool × Bool) × ((Int × Int × Int × Int) × (Int × Int × Int × Int)))) : Option ((Unit × Unit × Bool × Bool × Bool) × ((Int × Int × Int × Int) × (Int × Int × Int × Int))) := (l_FnMatricesMultiplied_R58_step v).run

def l_FnMatricesMultiplied_R60_sh : LSh := ⟨(fun ex => match ex with | .norm => [(66, none), (67, none), (519, none)] | .exit i => [] | .ret => [(4, none)]), [(66, (.one (.pf 0 0 0))), (67, (.one (.pf 1 0 0))), (69, (.one .sb)), (70, (.one .sb))], [(.rcd 0 [(.si .i64), (.si .i64), (.si .i64), (.si .i64)]), (.rcd 0 [(.si .i64), (.si .i64), (.si .i64), (.si .i64)])], [⟨.norm, [(66, (.one (.pf 0 0 0))), (67, (.one (.pf 1 0 0))), (519, (.one .sb))], [(.rcd 0 [(.si .i64), (.si .i64), (.si .i64), (.si .i64)]), (.rcd 0 [(.si .i64), (.si .i64), (.si .i64), (.si .i64)])]⟩], [], []⟩
noncomputable def l_FnMatricesMultiplied_R60_step : ((Unit × Unit × Bool × Bool) × ((Int × Int × Int × Int) × (Int × Int × Int × Int))) → T ((Unit × Unit × Bool) × ((Int × Int × Int × Int) × (Int × Int × Int × Int))) := fun (((), (), is, fifteen), ((x_0, x_1, x_2, x_3), (y_0, y_1, y_2, y_3))) =>
  (.test fifteen
  (.ret (((), ((), is)), ((x_0, (x_1, (x_2, x_3))), (y_0, (y_1, (y_2, y_3))))))
  (.ret (((), ((), false)), ((x_0, (x_1, (x_2, x_3))), (y_0, (y_1, (y_2, y_3)))))))
noncomputable def l_FnMatricesMultiplied_R60 (v : ((Unit × Unit × Bool × Bool) × ((Int × Int × Int × Int) × (Int × Int × Int × Int)))) : Option ((Unit × Unit × Bool) × ((Int × Int × Int × Int) × (Int × Int × Int × Int))) := (l_FnMatricesMultiplied_R60_step v).run

def l_FnMatricesMultiplied_fo : List FO := [⟨[(.one .sb)], []⟩]
noncomputable def l_FnMatricesMultiplied_t : (List (Int) × List (Int)) → T Bool := fun (code, more) =>
  (.sub (l_big (code, more)) fun z0 =>
  (.test z0
  (.ret true)
  (.sub (s_DrawTimesMatrix code) fun z1 =>
   (.sub (i_TimesMatrix ((z1.1.1, (z1.1.2.1, (z1.1.2.2.1, z1.1.2.2.2))), (z1.2.1, (z1.2.2.1, (z1.2.2.2.1, z1.2.2.2.2))))) fun z2 =>
   (.sub (s_TimesMatrix ((z1.1.1, (z1.1.2.1, (z1.1.2.2.1, z1.1.2.2.2))), (z1.2.1, (z1.2.2.1, (z1.2.2.2.1, z1.2.2.2.2))))) fun z3 =>
   (.sub (l_FnMatricesMultiplied_R6 ((more, ((), ((), ((), (z2.2, ((), z3.2)))))), ((z1.1.1, (z1.1.2.1, (z1.1.2.2.1, z1.1.2.2.2))), ((z1.2.1, (z1.2.2.1, (z1.2.2.2.1, z1.2.2.2.2))), ((z2.1.1, (z2.1.2.1, (z2.1.2.2.1, z2.1.2.2.2))), (z3.1.1, (z3.1.2.1, (z3.1.2.2.1, z3.1.2.2.2)))))))) fun z4 =>
   (.test z4.1.2.2.2.2.2
   (.ret false)
   (.sub (l_FnMatricesMultiplied_C9 ((z4.1.1, ((), ((), ((), z4.1.2.2.2.2.1)))), ((z4.2.1.1, (z4.2.1.2.1, (z4.2.1.2.2.1, z4.2.1.2.2.2))), ((z4.2.2.1.1, (z4.2.2.1.2.1, (z4.2.2.1.2.2.1, z4.2.2.1.2.2.2))), (z4.2.2.2.1, (z4.2.2.2.2.1, (z4.2.2.2.2.2.1, z4.2.2.2.2.2.2))))))) fun z5 =>
    (.test (Sum.isLeft z5)
    (.sub (Sum.getLeft? z5) fun z6 =>
     (.ret z6))
    (.sub (Sum.getRight? z5) fun z7 =>
     (.sub (s_DrawPowerMatrix z7) fun z8 =>
     (.sub (i_PowerMatrix ((z8.1.1, (z8.1.2.1, (z8.1.2.2.1, z8.1.2.2.2))), z8.2)) fun z9 =>
     (.sub (s_PowerMatrix ((z8.1.1, (z8.1.2.1, (z8.1.2.2.1, z8.1.2.2.2))), z8.2)) fun z10 =>
     (.sub (l_FnMatricesMultiplied_R24 ((z7, ((), (z8.2, ((), (z9.2, ((), z10.2)))))), ((z8.1.1, (z8.1.2.1, (z8.1.2.2.1, z8.1.2.2.2))), ((z9.1.1, (z9.1.2.1, (z9.1.2.2.1, z9.1.2.2.2))), (z10.1.1, (z10.1.2.1, (z10.1.2.2.1, z10.1.2.2.2))))))) fun z11 =>
     (.test z11.1.2.2.2.2.2
     (.ret false)
     (.sub (l_FnMatricesMultiplied_C27 ((z11.1.1, ((), (z11.1.2.2.1, ((), z11.1.2.2.2.2.1)))), ((z11.2.1.1, (z11.2.1.2.1, (z11.2.1.2.2.1, z11.2.1.2.2.2))), (z11.2.2.1, (z11.2.2.2.1, (z11.2.2.2.2.1, z11.2.2.2.2.2)))))) fun z12 =>
      (.test (Sum.isLeft z12)
      (.sub (Sum.getLeft? z12) fun z13 =>
       (.ret z13))
      (.sub (Sum.getRight? z12) fun z14 =>
       (.sub (s_DrawOrderOf z14) fun z15 =>
       (.sub (i_OrderOf (z15.1, (z15.2.1, (z15.2.2.1, z15.2.2.2)))) fun z16 =>
       (.sub (s_OrderOf (z15.1, (z15.2.1, (z15.2.2.1, z15.2.2.2)))) fun z17 =>
       (.sub (i_InverseMatrix (z15.1, (z15.2.1, (z15.2.2.1, z15.2.2.2)))) fun z18 =>
       (.sub (s_InverseMatrix (z15.1, (z15.2.1, (z15.2.2.1, z15.2.2.2)))) fun z19 =>
       (.sub (i_NegateMatrix (z15.1, (z15.2.1, (z15.2.2.1, z15.2.2.2)))) fun z20 =>
       (.sub (s_NegateMatrix (z15.1, (z15.2.1, (z15.2.2.1, z15.2.2.2)))) fun z21 =>
       (.sub (i_TraceOf (z15.1, (z15.2.1, (z15.2.2.1, z15.2.2.2)))) fun z22 =>
       (.sub (s_TraceOf (z15.1, (z15.2.1, (z15.2.2.1, z15.2.2.2)))) fun z23 =>
       (.sub (i_FixedSign (z15.1, (z15.2.1, (z15.2.2.1, z15.2.2.2)))) fun z24 =>
       (.sub (s_FixedSign (z15.1, (z15.2.1, (z15.2.2.1, z15.2.2.2)))) fun z25 =>
       (.sub (i_MatrixText (z15.1, (z15.2.1, (z15.2.2.1, z15.2.2.2)))) fun z26 =>
       (.sub (s_MatrixText (z15.1, (z15.2.1, (z15.2.2.1, z15.2.2.2)))) fun z27 =>
       (.sub (l_FnMatricesMultiplied_R44 ((z14, ((), (z16.1, (z16.2, (z17.1, (z17.2, ((), (z18.2, ((), (z19.2, ((), (z20.2, ((), (z21.2, (z22.1, (z22.2, (z23.1, (z23.2, (z24.1, (z24.2, (z25.1, (z25.2, (z26.1, (z26.2, (z27.1, z27.2))))))))))))))))))))))))), ((z15.1, (z15.2.1, (z15.2.2.1, z15.2.2.2))), ((z18.1.1, (z18.1.2.1, (z18.1.2.2.1, z18.1.2.2.2))), ((z19.1.1, (z19.1.2.1, (z19.1.2.2.1, z19.1.2.2.2))), ((z20.1.1, (z20.1.2.1, (z20.1.2.2.1, z20.1.2.2.2))), (z21.1.1, (z21.1.2.1, (z21.1.2.2.1, z21.1.2.2.2))))))))) fun z28 =>
       (.test z28.1.2.2.2.2.2.2.2.2.2
       (.ret false)
       (.sub (l_FnMatricesMultiplied_C47 ((z28.1.1, ((), (z28.1.2.2.1, (z28.1.2.2.2.1, ((), (z28.1.2.2.2.2.2.1, ((), (z28.1.2.2.2.2.2.2.2.1, z28.1.2.2.2.2.2.2.2.2.1)))))))), ((z28.2.1.1, (z28.2.1.2.1, (z28.2.1.2.2.1, z28.2.1.2.2.2))), ((z28.2.2.1.1, (z28.2.2.1.2.1, (z28.2.2.1.2.2.1, z28.2.2.1.2.2.2))), (z28.2.2.2.1, (z28.2.2.2.2.1, (z28.2.2.2.2.2.1, z28.2.2.2.2.2.2))))))) fun z29 =>
        (.test (Sum.isLeft z29)
        (.sub (Sum.getLeft? z29) fun z30 =>
         (.ret z30))
        (.sub (Sum.getRight? z29) fun z31 =>
         (.sub (l_FnMatricesMultiplied_C51 ((z31.1.1, ((), (z31.1.2.2.1, ((), (z31.1.2.2.2.2.1, ((), (z31.1.2.2.2.2.2.2.1, z31.1.2.2.2.2.2.2.2))))))), ((z31.2.1.1, (z31.2.1.2.1, (z31.2.1.2.2.1, z31.2.1.2.2.2))), ((z31.2.2.1.1, (z31.2.2.1.2.1, (z31.2.2.1.2.2.1, z31.2.2.1.2.2.2))), (z31.2.2.2.1, (z31.2.2.2.2.1, (z31.2.2.2.2.2.1, z31.2.2.2.2.2.2))))))) fun z32 =>
         (.test (Sum.isLeft z32)
         (.sub (Sum.getLeft? z32) fun z33 =>
          (.ret z33))
         (.sub (Sum.getRight? z32) fun z34 =>
          (.sub (s_DrawIsConjugateBy z34) fun z35 =>
          (.sub (i_IsConjugateBy ((z35.1.1, (z35.1.2.1, (z35.1.2.2.1, z35.1.2.2.2))), ((z35.2.1.1, (z35.2.1.2.1, (z35.2.1.2.2.1, z35.2.1.2.2.2))), (z35.2.2.1, (z35.2.2.2.1, (z35.2.2.2.2.1, z35.2.2.2.2.2)))))) fun z36 =>
          (.sub (s_IsConjugateBy ((z35.1.1, (z35.1.2.1, (z35.1.2.2.1, z35.1.2.2.2))), ((z35.2.1.1, (z35.2.1.2.1, (z35.2.1.2.2.1, z35.2.1.2.2.2))), (z35.2.2.1, (z35.2.2.2.1, (z35.2.2.2.2.1, z35.2.2.2.2.2)))))) fun z37 =>
          (.sub (l_FnMatricesMultiplied_R58 (((), ((), (z36.1, (z36.2, (z37.1, z37.2))))), ((z35.1.1, (z35.1.2.1, (z35.1.2.2.1, z35.1.2.2.2))), (z35.2.1.1, (z35.2.1.2.1, (z35.2.1.2.2.1, z35.2.1.2.2.2)))))) fun z38 =>
          (.test z38.1.2.2.2.2
          (.ret false)
          (.sub (l_FnMatricesMultiplied_R60 (((), ((), (z38.1.2.2.1, z38.1.2.2.2.1))), ((z38.2.1.1, (z38.2.1.2.1, (z38.2.1.2.2.1, z38.2.1.2.2.2))), (z38.2.2.1, (z38.2.2.2.1, (z38.2.2.2.2.1, z38.2.2.2.2.2)))))) fun z39 =>
           (.test z39.1.2.2
           (.sub (i_TraceOf (z39.2.1.1, (z39.2.1.2.1, (z39.2.1.2.2.1, z39.2.1.2.2.2)))) fun z40 =>
            (.sub (i_TraceOf (z39.2.2.1, (z39.2.2.2.1, (z39.2.2.2.2.1, z39.2.2.2.2.2)))) fun z41 =>
            (.test z40.2
            (.test z41.2
             (.ret (z40.1 == z41.1))
             (.ret false))
            (.ret false))))
           (.ret true)))))))))))))))))))))))))))))))))))))))))))))))
noncomputable def l_FnMatricesMultiplied (v : (List (Int) × List (Int))) : Option Bool := (l_FnMatricesMultiplied_t v).run
noncomputable def l_FnMatricesMultiplied_E : TEnv := (((((((((((((((((((((((((E0.add1 n_l_big l_big_sh l_big_fo l_big).add1 n_s_DrawTimesMatrix s_DrawTimesMatrix_sh s_DrawTimesMatrix_fo s_DrawTimesMatrix).add1 n_i_TimesMatrix i_TimesMatrix_sh i_TimesMatrix_fo i_TimesMatrix).add1 n_s_TimesMatrix s_TimesMatrix_sh s_TimesMatrix_fo s_TimesMatrix).add1 n_i_IsMatrix i_IsMatrix_sh i_IsMatrix_fo i_IsMatrix).add1 n_i_InverseMatrix i_InverseMatrix_sh i_InverseMatrix_fo i_InverseMatrix).add1 n_i_TraceOf i_TraceOf_sh i_TraceOf_fo i_TraceOf).add1 n_s_DrawPowerMatrix s_DrawPowerMatrix_sh s_DrawPowerMatrix_fo s_DrawPowerMatrix).add1 n_i_PowerMatrix i_PowerMatrix_sh i_PowerMatrix_fo i_PowerMatrix).add1 n_s_PowerMatrix s_PowerMatrix_sh s_PowerMatrix_fo s_PowerMatrix).add1 n_s_DrawOrderOf s_DrawOrderOf_sh s_DrawOrderOf_fo s_DrawOrderOf).add1 n_i_OrderOf i_OrderOf_sh i_OrderOf_fo i_OrderOf).add1 n_s_OrderOf s_OrderOf_sh s_OrderOf_fo s_OrderOf).add1 n_s_InverseMatrix s_InverseMatrix_sh s_InverseMatrix_fo s_InverseMatrix).add1 n_i_NegateMatrix i_NegateMatrix_sh i_NegateMatrix_fo i_NegateMatrix).add1 n_s_NegateMatrix s_NegateMatrix_sh s_NegateMatrix_fo s_NegateMatrix).add1 n_s_TraceOf s_TraceOf_sh s_TraceOf_fo s_TraceOf).add1 n_i_FixedSign i_FixedSign_sh i_FixedSign_fo i_FixedSign).add1 n_s_FixedSign s_FixedSign_sh s_FixedSign_fo s_FixedSign).add1 n_i_MatrixText i_MatrixText_sh i_MatrixText_fo i_MatrixText).add1 n_s_MatrixText s_MatrixText_sh s_MatrixText_fo s_MatrixText).add1 n_s_IsMatrix s_IsMatrix_sh s_IsMatrix_fo s_IsMatrix).add1 n_s_DrawIsConjugateBy s_DrawIsConjugateBy_sh s_DrawIsConjugateBy_fo s_DrawIsConjugateBy).add1 n_i_IsConjugateBy i_IsConjugateBy_sh i_IsConjugateBy_fo i_IsConjugateBy).add1 n_s_IsConjugateBy s_IsConjugateBy_sh s_IsConjugateBy_fo s_IsConjugateBy)
theorem l_FnMatricesMultiplied_Eok : (l_FnMatricesMultiplied_E).OK := (((((((((((((((((((((((((E0ok.add1 l_big_ok).add1 s_DrawTimesMatrix_ok).add1 i_TimesMatrix_ok).add1 s_TimesMatrix_ok).add1 i_IsMatrix_ok).add1 i_InverseMatrix_ok).add1 i_TraceOf_ok).add1 s_DrawPowerMatrix_ok).add1 i_PowerMatrix_ok).add1 s_PowerMatrix_ok).add1 s_DrawOrderOf_ok).add1 i_OrderOf_ok).add1 s_OrderOf_ok).add1 s_InverseMatrix_ok).add1 i_NegateMatrix_ok).add1 s_NegateMatrix_ok).add1 s_TraceOf_ok).add1 i_FixedSign_ok).add1 s_FixedSign_ok).add1 i_MatrixText_ok).add1 s_MatrixText_ok).add1 s_IsMatrix_ok).add1 s_DrawIsConjugateBy_ok).add1 i_IsConjugateBy_ok).add1 s_IsConjugateBy_ok)
noncomputable def l_FnMatricesMultiplied_told : Nat → Option SealT := fun id => if id = 2000006 then some (LSh.cut l_FnMatricesMultiplied_R6_sh 0 [(1, none), (5, none), (6, none), (7, none), (8, none), (9, none), (10, none)] (l_FnMatricesMultiplied_R6)) else if id = 2000014 then some (LSh.cut l_FnMatricesMultiplied_R14_sh 0 [(1, none), (5, none), (6, none), (7, none), (12, none), (14, none), (15, none), (16, none), (17, none), (18, none), (19, none), (20, none)] (l_FnMatricesMultiplied_R14)) else if id = 2000019 then some (LSh.cut l_FnMatricesMultiplied_R19_sh 0 [(1, none), (19, none), (23, none), (24, none)] (l_FnMatricesMultiplied_R19)) else if id = 1000009 then some (LSh.cut l_FnMatricesMultiplied_C9_sh 0 [(1, none), (5, none), (6, none), (7, none), (8, none)] (l_FnMatricesMultiplied_C9)) else if id = 2000024 then some (LSh.cut l_FnMatricesMultiplied_R24_sh 0 [(1, none), (25, none), (26, none), (27, none), (28, none), (29, none), (30, none)] (l_FnMatricesMultiplied_R24)) else if id = 2000029 then some (LSh.cut l_FnMatricesMultiplied_R29_sh 0 [(1, none), (32, none), (33, none), (34, none)] (l_FnMatricesMultiplied_R29)) else if id = 1000027 then some (LSh.cut l_FnMatricesMultiplied_C27_sh 0 [(1, none), (25, none), (26, none), (27, none), (28, none)] (l_FnMatricesMultiplied_C27)) else if id = 2000044 then some (LSh.cut l_FnMatricesMultiplied_R44_sh 0 [(1, none), (35, none), (36, none), (37, none), (38, none), (39, none), (40, none), (41, none), (42, none), (43, none), (44, none), (45, none), (46, none), (47, none), (48, none), (49, none), (50, none), (51, none), (52, none), (53, none), (54, none), (55, none), (56, none), (57, none), (58, none), (59, none)] (l_FnMatricesMultiplied_R44)) else if id = 2000048 then some (LSh.cut l_FnMatricesMultiplied_R48_sh 0 [(1, none), (35, none), (36, none), (37, none), (40, none), (41, none), (44, none), (48, none), (52, none), (60, none), (61, none)] (l_FnMatricesMultiplied_R48)) else if id = 1000047 then some (LSh.cut l_FnMatricesMultiplied_C47_sh 0 [(1, none), (35, none), (36, none), (37, none), (40, none), (41, none), (44, none), (48, none), (52, none)] (l_FnMatricesMultiplied_C47)) else if id = 2000053 then some (LSh.cut l_FnMatricesMultiplied_R53_sh 0 [(1, none), (35, none), (37, none), (48, none), (52, none), (62, none), (63, none), (64, none), (65, none)] (l_FnMatricesMultiplied_R53)) else if id = 1000051 then some (LSh.cut l_FnMatricesMultiplied_C51_sh 0 [(1, none), (35, none), (37, none), (40, none), (41, none), (44, none), (48, none), (52, none)] (l_FnMatricesMultiplied_C51)) else if id = 2000058 then some (LSh.cut l_FnMatricesMultiplied_R58_sh 0 [(66, none), (67, none), (69, none), (70, none), (71, none), (72, none)] (l_FnMatricesMultiplied_R58)) else if id = 2000060 then some (LSh.cut l_FnMatricesMultiplied_R60_sh 0 [(66, none), (67, none), (69, none), (70, none)] (l_FnMatricesMultiplied_R60)) else none
theorem l_FnMatricesMultiplied_R6_ok : CutOK Tryd.prog 0 (cutAt (loopAt (bodyOf fn_l_FnMatricesMultiplied) []) 8) (LSh.cut l_FnMatricesMultiplied_R6_sh 0 [(1, none), (5, none), (6, none), (7, none), (8, none), (9, none), (10, none)] (l_FnMatricesMultiplied_R6)) :=
  cut_ok (E := l_FnMatricesMultiplied_E) (l_FnMatricesMultiplied_Eok) (told := l_FnMatricesMultiplied_told) (l := l_FnMatricesMultiplied_R6_sh) (head := [(1, none), (5, none), (6, none), (7, none), (8, none), (9, none), (10, none)]) (F := l_FnMatricesMultiplied_R6_step) (loopsOK_of2 (ls := []) (cs := []) (by kernel_rfl) trivial (by kernel_rfl) trivial) (fun v => by kernel_rfl)
theorem l_FnMatricesMultiplied_R14_ok : CutOK Tryd.prog 0 (cutAt (loopAt (bodyOf fn_l_FnMatricesMultiplied) []) 18) (LSh.cut l_FnMatricesMultiplied_R14_sh 0 [(1, none), (5, none), (6, none), (7, none), (12, none), (14, none), (15, none), (16, none), (17, none), (18, none), (19, none), (20, none)] (l_FnMatricesMultiplied_R14)) :=
  cut_ok (E := l_FnMatricesMultiplied_E) (l_FnMatricesMultiplied_Eok) (told := l_FnMatricesMultiplied_told) (l := l_FnMatricesMultiplied_R14_sh) (head := [(1, none), (5, none), (6, none), (7, none), (12, none), (14, none), (15, none), (16, none), (17, none), (18, none), (19, none), (20, none)]) (F := l_FnMatricesMultiplied_R14_step) (loopsOK_of2 (ls := []) (cs := []) (by kernel_rfl) trivial (by kernel_rfl) trivial) (fun v => by kernel_rfl)
theorem l_FnMatricesMultiplied_R19_ok : CutOK Tryd.prog 0 (cutAt (loopAt (bodyOf fn_l_FnMatricesMultiplied) []) 23) (LSh.cut l_FnMatricesMultiplied_R19_sh 0 [(1, none), (19, none), (23, none), (24, none)] (l_FnMatricesMultiplied_R19)) :=
  cut_ok (E := l_FnMatricesMultiplied_E) (l_FnMatricesMultiplied_Eok) (told := l_FnMatricesMultiplied_told) (l := l_FnMatricesMultiplied_R19_sh) (head := [(1, none), (19, none), (23, none), (24, none)]) (F := l_FnMatricesMultiplied_R19_step) (loopsOK_of2 (ls := []) (cs := []) (by kernel_rfl) trivial (by kernel_rfl) trivial) (fun v => by kernel_rfl)
theorem l_FnMatricesMultiplied_C9_ok : CutOK Tryd.prog 0 (cutAt (loopAt (bodyOf fn_l_FnMatricesMultiplied) []) 10) (LSh.cut l_FnMatricesMultiplied_C9_sh 0 [(1, none), (5, none), (6, none), (7, none), (8, none)] (l_FnMatricesMultiplied_C9)) :=
  cut_ok (E := l_FnMatricesMultiplied_E) (l_FnMatricesMultiplied_Eok) (told := l_FnMatricesMultiplied_told) (l := l_FnMatricesMultiplied_C9_sh) (head := [(1, none), (5, none), (6, none), (7, none), (8, none)]) (F := l_FnMatricesMultiplied_C9_step) (loopsOK_of2 (ls := []) (cs := [cutAt (loopAt (bodyOf fn_l_FnMatricesMultiplied) []) 11, cutAt (loopAt (bodyOf fn_l_FnMatricesMultiplied) []) 12, cutAt (loopAt (bodyOf fn_l_FnMatricesMultiplied) []) 13, cutAt (loopAt (bodyOf fn_l_FnMatricesMultiplied) []) 14, cutAt (loopAt (bodyOf fn_l_FnMatricesMultiplied) []) 15, cutAt (loopAt (bodyOf fn_l_FnMatricesMultiplied) []) 16, cutAt (loopAt (bodyOf fn_l_FnMatricesMultiplied) []) 17, cutAt (loopAt (bodyOf fn_l_FnMatricesMultiplied) []) 18, cutAt (loopAt (bodyOf fn_l_FnMatricesMultiplied) []) 19, cutAt (loopAt (bodyOf fn_l_FnMatricesMultiplied) []) 20, cutAt (loopAt (bodyOf fn_l_FnMatricesMultiplied) []) 21, cutAt (loopAt (bodyOf fn_l_FnMatricesMultiplied) []) 22, cutAt (loopAt (bodyOf fn_l_FnMatricesMultiplied) []) 23, cutAt (loopAt (bodyOf fn_l_FnMatricesMultiplied) []) 24]) (by kernel_rfl) trivial (by kernel_rfl) ⟨.inl (by kernel_rfl), ⟨.inl (by kernel_rfl), ⟨.inl (by kernel_rfl), ⟨.inl (by kernel_rfl), ⟨.inl (by kernel_rfl), ⟨.inl (by kernel_rfl), ⟨.inl (by kernel_rfl), ⟨.inr ⟨_, by kernel_rfl, l_FnMatricesMultiplied_R14_ok⟩, ⟨.inl (by kernel_rfl), ⟨.inl (by kernel_rfl), ⟨.inl (by kernel_rfl), ⟨.inl (by kernel_rfl), ⟨.inr ⟨_, by kernel_rfl, l_FnMatricesMultiplied_R19_ok⟩, ⟨.inl (by kernel_rfl), trivial⟩⟩⟩⟩⟩⟩⟩⟩⟩⟩⟩⟩⟩⟩) (fun v => by kernel_rfl)
theorem l_FnMatricesMultiplied_R24_ok : CutOK Tryd.prog 0 (cutAt (loopAt (bodyOf fn_l_FnMatricesMultiplied) []) 29) (LSh.cut l_FnMatricesMultiplied_R24_sh 0 [(1, none), (25, none), (26, none), (27, none), (28, none), (29, none), (30, none)] (l_FnMatricesMultiplied_R24)) :=
  cut_ok (E := l_FnMatricesMultiplied_E) (l_FnMatricesMultiplied_Eok) (told := l_FnMatricesMultiplied_told) (l := l_FnMatricesMultiplied_R24_sh) (head := [(1, none), (25, none), (26, none), (27, none), (28, none), (29, none), (30, none)]) (F := l_FnMatricesMultiplied_R24_step) (loopsOK_of2 (ls := []) (cs := []) (by kernel_rfl) trivial (by kernel_rfl) trivial) (fun v => by kernel_rfl)
theorem l_FnMatricesMultiplied_R29_ok : CutOK Tryd.prog 0 (cutAt (loopAt (bodyOf fn_l_FnMatricesMultiplied) []) 35) (LSh.cut l_FnMatricesMultiplied_R29_sh 0 [(1, none), (32, none), (33, none), (34, none)] (l_FnMatricesMultiplied_R29)) :=
  cut_ok (E := l_FnMatricesMultiplied_E) (l_FnMatricesMultiplied_Eok) (told := l_FnMatricesMultiplied_told) (l := l_FnMatricesMultiplied_R29_sh) (head := [(1, none), (32, none), (33, none), (34, none)]) (F := l_FnMatricesMultiplied_R29_step) (loopsOK_of2 (ls := []) (cs := []) (by kernel_rfl) trivial (by kernel_rfl) trivial) (fun v => by kernel_rfl)
theorem l_FnMatricesMultiplied_C27_ok : CutOK Tryd.prog 0 (cutAt (loopAt (bodyOf fn_l_FnMatricesMultiplied) []) 31) (LSh.cut l_FnMatricesMultiplied_C27_sh 0 [(1, none), (25, none), (26, none), (27, none), (28, none)] (l_FnMatricesMultiplied_C27)) :=
  cut_ok (E := l_FnMatricesMultiplied_E) (l_FnMatricesMultiplied_Eok) (told := l_FnMatricesMultiplied_told) (l := l_FnMatricesMultiplied_C27_sh) (head := [(1, none), (25, none), (26, none), (27, none), (28, none)]) (F := l_FnMatricesMultiplied_C27_step) (loopsOK_of2 (ls := []) (cs := [cutAt (loopAt (bodyOf fn_l_FnMatricesMultiplied) []) 32, cutAt (loopAt (bodyOf fn_l_FnMatricesMultiplied) []) 33, cutAt (loopAt (bodyOf fn_l_FnMatricesMultiplied) []) 34, cutAt (loopAt (bodyOf fn_l_FnMatricesMultiplied) []) 35, cutAt (loopAt (bodyOf fn_l_FnMatricesMultiplied) []) 36]) (by kernel_rfl) trivial (by kernel_rfl) ⟨.inl (by kernel_rfl), ⟨.inl (by kernel_rfl), ⟨.inl (by kernel_rfl), ⟨.inr ⟨_, by kernel_rfl, l_FnMatricesMultiplied_R29_ok⟩, ⟨.inl (by kernel_rfl), trivial⟩⟩⟩⟩⟩) (fun v => by kernel_rfl)
theorem l_FnMatricesMultiplied_R44_ok : CutOK Tryd.prog 0 (cutAt (loopAt (bodyOf fn_l_FnMatricesMultiplied) []) 51) (LSh.cut l_FnMatricesMultiplied_R44_sh 0 [(1, none), (35, none), (36, none), (37, none), (38, none), (39, none), (40, none), (41, none), (42, none), (43, none), (44, none), (45, none), (46, none), (47, none), (48, none), (49, none), (50, none), (51, none), (52, none), (53, none), (54, none), (55, none), (56, none), (57, none), (58, none), (59, none)] (l_FnMatricesMultiplied_R44)) :=
  cut_ok (E := l_FnMatricesMultiplied_E) (l_FnMatricesMultiplied_Eok) (told := l_FnMatricesMultiplied_told) (l := l_FnMatricesMultiplied_R44_sh) (head := [(1, none), (35, none), (36, none), (37, none), (38, none), (39, none), (40, none), (41, none), (42, none), (43, none), (44, none), (45, none), (46, none), (47, none), (48, none), (49, none), (50, none), (51, none), (52, none), (53, none), (54, none), (55, none), (56, none), (57, none), (58, none), (59, none)]) (F := l_FnMatricesMultiplied_R44_step) (loopsOK_of2 (ls := []) (cs := []) (by kernel_rfl) trivial (by kernel_rfl) trivial) (fun v => by kernel_rfl)
theorem l_FnMatricesMultiplied_R48_ok : CutOK Tryd.prog 0 (cutAt (loopAt (bodyOf fn_l_FnMatricesMultiplied) []) 56) (LSh.cut l_FnMatricesMultiplied_R48_sh 0 [(1, none), (35, none), (36, none), (37, none), (40, none), (41, none), (44, none), (48, none), (52, none), (60, none), (61, none)] (l_FnMatricesMultiplied_R48)) :=
  cut_ok (E := l_FnMatricesMultiplied_E) (l_FnMatricesMultiplied_Eok) (told := l_FnMatricesMultiplied_told) (l := l_FnMatricesMultiplied_R48_sh) (head := [(1, none), (35, none), (36, none), (37, none), (40, none), (41, none), (44, none), (48, none), (52, none), (60, none), (61, none)]) (F := l_FnMatricesMultiplied_R48_step) (loopsOK_of2 (ls := []) (cs := []) (by kernel_rfl) trivial (by kernel_rfl) trivial) (fun v => by kernel_rfl)
theorem l_FnMatricesMultiplied_C47_ok : CutOK Tryd.prog 0 (cutAt (loopAt (bodyOf fn_l_FnMatricesMultiplied) []) 53) (LSh.cut l_FnMatricesMultiplied_C47_sh 0 [(1, none), (35, none), (36, none), (37, none), (40, none), (41, none), (44, none), (48, none), (52, none)] (l_FnMatricesMultiplied_C47)) :=
  cut_ok (E := l_FnMatricesMultiplied_E) (l_FnMatricesMultiplied_Eok) (told := l_FnMatricesMultiplied_told) (l := l_FnMatricesMultiplied_C47_sh) (head := [(1, none), (35, none), (36, none), (37, none), (40, none), (41, none), (44, none), (48, none), (52, none)]) (F := l_FnMatricesMultiplied_C47_step) (loopsOK_of2 (ls := []) (cs := [cutAt (loopAt (bodyOf fn_l_FnMatricesMultiplied) []) 54, cutAt (loopAt (bodyOf fn_l_FnMatricesMultiplied) []) 55, cutAt (loopAt (bodyOf fn_l_FnMatricesMultiplied) []) 56, cutAt (loopAt (bodyOf fn_l_FnMatricesMultiplied) []) 57]) (by kernel_rfl) trivial (by kernel_rfl) ⟨.inl (by kernel_rfl), ⟨.inl (by kernel_rfl), ⟨.inr ⟨_, by kernel_rfl, l_FnMatricesMultiplied_R48_ok⟩, ⟨.inl (by kernel_rfl), trivial⟩⟩⟩⟩) (fun v => by kernel_rfl)
theorem l_FnMatricesMultiplied_R53_ok : CutOK Tryd.prog 0 (cutAt (loopAt (bodyOf fn_l_FnMatricesMultiplied) []) 62) (LSh.cut l_FnMatricesMultiplied_R53_sh 0 [(1, none), (35, none), (37, none), (48, none), (52, none), (62, none), (63, none), (64, none), (65, none)] (l_FnMatricesMultiplied_R53)) :=
  cut_ok (E := l_FnMatricesMultiplied_E) (l_FnMatricesMultiplied_Eok) (told := l_FnMatricesMultiplied_told) (l := l_FnMatricesMultiplied_R53_sh) (head := [(1, none), (35, none), (37, none), (48, none), (52, none), (62, none), (63, none), (64, none), (65, none)]) (F := l_FnMatricesMultiplied_R53_step) (loopsOK_of2 (ls := []) (cs := []) (by kernel_rfl) trivial (by kernel_rfl) trivial) (fun v => by kernel_rfl)
theorem l_FnMatricesMultiplied_C51_ok : CutOK Tryd.prog 0 (cutAt (loopAt (bodyOf fn_l_FnMatricesMultiplied) []) 58) (LSh.cut l_FnMatricesMultiplied_C51_sh 0 [(1, none), (35, none), (37, none), (40, none), (41, none), (44, none), (48, none), (52, none)] (l_FnMatricesMultiplied_C51)) :=
  cut_ok (E := l_FnMatricesMultiplied_E) (l_FnMatricesMultiplied_Eok) (told := l_FnMatricesMultiplied_told) (l := l_FnMatricesMultiplied_C51_sh) (head := [(1, none), (35, none), (37, none), (40, none), (41, none), (44, none), (48, none), (52, none)]) (F := l_FnMatricesMultiplied_C51_step) (loopsOK_of2 (ls := []) (cs := [cutAt (loopAt (bodyOf fn_l_FnMatricesMultiplied) []) 59, cutAt (loopAt (bodyOf fn_l_FnMatricesMultiplied) []) 60, cutAt (loopAt (bodyOf fn_l_FnMatricesMultiplied) []) 61, cutAt (loopAt (bodyOf fn_l_FnMatricesMultiplied) []) 62, cutAt (loopAt (bodyOf fn_l_FnMatricesMultiplied) []) 63]) (by kernel_rfl) trivial (by kernel_rfl) ⟨.inl (by kernel_rfl), ⟨.inl (by kernel_rfl), ⟨.inl (by kernel_rfl), ⟨.inr ⟨_, by kernel_rfl, l_FnMatricesMultiplied_R53_ok⟩, ⟨.inl (by kernel_rfl), trivial⟩⟩⟩⟩⟩) (fun v => by kernel_rfl)
theorem l_FnMatricesMultiplied_R58_ok : CutOK Tryd.prog 0 (cutAt (loopAt (bodyOf fn_l_FnMatricesMultiplied) []) 68) (LSh.cut l_FnMatricesMultiplied_R58_sh 0 [(66, none), (67, none), (69, none), (70, none), (71, none), (72, none)] (l_FnMatricesMultiplied_R58)) :=
  cut_ok (E := l_FnMatricesMultiplied_E) (l_FnMatricesMultiplied_Eok) (told := l_FnMatricesMultiplied_told) (l := l_FnMatricesMultiplied_R58_sh) (head := [(66, none), (67, none), (69, none), (70, none), (71, none), (72, none)]) (F := l_FnMatricesMultiplied_R58_step) (loopsOK_of2 (ls := []) (cs := []) (by kernel_rfl) trivial (by kernel_rfl) trivial) (fun v => by kernel_rfl)
theorem l_FnMatricesMultiplied_R60_ok : CutOK Tryd.prog 0 (cutAt (loopAt (bodyOf fn_l_FnMatricesMultiplied) []) 71) (LSh.cut l_FnMatricesMultiplied_R60_sh 0 [(66, none), (67, none), (69, none), (70, none)] (l_FnMatricesMultiplied_R60)) :=
  cut_ok (E := l_FnMatricesMultiplied_E) (l_FnMatricesMultiplied_Eok) (told := l_FnMatricesMultiplied_told) (l := l_FnMatricesMultiplied_R60_sh) (head := [(66, none), (67, none), (69, none), (70, none)]) (F := l_FnMatricesMultiplied_R60_step) (loopsOK_of2 (ls := []) (cs := []) (by kernel_rfl) trivial (by kernel_rfl) trivial) (fun v => by kernel_rfl)
theorem l_FnMatricesMultiplied_ok : FOK Tryd.prog n_l_FnMatricesMultiplied l_FnMatricesMultiplied_sh l_FnMatricesMultiplied_fo l_FnMatricesMultiplied :=
  fn_ok (E := l_FnMatricesMultiplied_E) (l_FnMatricesMultiplied_Eok) (told := l_FnMatricesMultiplied_told) (fl := []) (c := bodyOf fn_l_FnMatricesMultiplied) (s := l_FnMatricesMultiplied_sh) (l := l_FnMatricesMultiplied_fo) (tree := l_FnMatricesMultiplied_t) fnat_l_FnMatricesMultiplied (by kernel_rfl) (by kernel_rfl) (by kernel_rfl) (loopsOK_of2 (ls := []) (cs := [cutAt (loopAt (bodyOf fn_l_FnMatricesMultiplied) []) 0, cutAt (loopAt (bodyOf fn_l_FnMatricesMultiplied) []) 1, cutAt (loopAt (bodyOf fn_l_FnMatricesMultiplied) []) 2, cutAt (loopAt (bodyOf fn_l_FnMatricesMultiplied) []) 3, cutAt (loopAt (bodyOf fn_l_FnMatricesMultiplied) []) 4, cutAt (loopAt (bodyOf fn_l_FnMatricesMultiplied) []) 5, cutAt (loopAt (bodyOf fn_l_FnMatricesMultiplied) []) 6, cutAt (loopAt (bodyOf fn_l_FnMatricesMultiplied) []) 7, cutAt (loopAt (bodyOf fn_l_FnMatricesMultiplied) []) 8, cutAt (loopAt (bodyOf fn_l_FnMatricesMultiplied) []) 9, cutAt (loopAt (bodyOf fn_l_FnMatricesMultiplied) []) 10, cutAt (loopAt (bodyOf fn_l_FnMatricesMultiplied) []) 11, cutAt (loopAt (bodyOf fn_l_FnMatricesMultiplied) []) 12, cutAt (loopAt (bodyOf fn_l_FnMatricesMultiplied) []) 13, cutAt (loopAt (bodyOf fn_l_FnMatricesMultiplied) []) 14, cutAt (loopAt (bodyOf fn_l_FnMatricesMultiplied) []) 15, cutAt (loopAt (bodyOf fn_l_FnMatricesMultiplied) []) 16, cutAt (loopAt (bodyOf fn_l_FnMatricesMultiplied) []) 17, cutAt (loopAt (bodyOf fn_l_FnMatricesMultiplied) []) 18, cutAt (loopAt (bodyOf fn_l_FnMatricesMultiplied) []) 19, cutAt (loopAt (bodyOf fn_l_FnMatricesMultiplied) []) 20, cutAt (loopAt (bodyOf fn_l_FnMatricesMultiplied) []) 21, cutAt (loopAt (bodyOf fn_l_FnMatricesMultiplied) []) 22, cutAt (loopAt (bodyOf fn_l_FnMatricesMultiplied) []) 23, cutAt (loopAt (bodyOf fn_l_FnMatricesMultiplied) []) 24, cutAt (loopAt (bodyOf fn_l_FnMatricesMultiplied) []) 25, cutAt (loopAt (bodyOf fn_l_FnMatricesMultiplied) []) 26, cutAt (loopAt (bodyOf fn_l_FnMatricesMultiplied) []) 27, cutAt (loopAt (bodyOf fn_l_FnMatricesMultiplied) []) 28, cutAt (loopAt (bodyOf fn_l_FnMatricesMultiplied) []) 29, cutAt (loopAt (bodyOf fn_l_FnMatricesMultiplied) []) 30, cutAt (loopAt (bodyOf fn_l_FnMatricesMultiplied) []) 31, cutAt (loopAt (bodyOf fn_l_FnMatricesMultiplied) []) 32, cutAt (loopAt (bodyOf fn_l_FnMatricesMultiplied) []) 33, cutAt (loopAt (bodyOf fn_l_FnMatricesMultiplied) []) 34, cutAt (loopAt (bodyOf fn_l_FnMatricesMultiplied) []) 35, cutAt (loopAt (bodyOf fn_l_FnMatricesMultiplied) []) 36, cutAt (loopAt (bodyOf fn_l_FnMatricesMultiplied) []) 37, cutAt (loopAt (bodyOf fn_l_FnMatricesMultiplied) []) 38, cutAt (loopAt (bodyOf fn_l_FnMatricesMultiplied) []) 39, cutAt (loopAt (bodyOf fn_l_FnMatricesMultiplied) []) 40, cutAt (loopAt (bodyOf fn_l_FnMatricesMultiplied) []) 41, cutAt (loopAt (bodyOf fn_l_FnMatricesMultiplied) []) 42, cutAt (loopAt (bodyOf fn_l_FnMatricesMultiplied) []) 43, cutAt (loopAt (bodyOf fn_l_FnMatricesMultiplied) []) 44, cutAt (loopAt (bodyOf fn_l_FnMatricesMultiplied) []) 45, cutAt (loopAt (bodyOf fn_l_FnMatricesMultiplied) []) 46, cutAt (loopAt (bodyOf fn_l_FnMatricesMultiplied) []) 47, cutAt (loopAt (bodyOf fn_l_FnMatricesMultiplied) []) 48, cutAt (loopAt (bodyOf fn_l_FnMatricesMultiplied) []) 49, cutAt (loopAt (bodyOf fn_l_FnMatricesMultiplied) []) 50, cutAt (loopAt (bodyOf fn_l_FnMatricesMultiplied) []) 51, cutAt (loopAt (bodyOf fn_l_FnMatricesMultiplied) []) 52, cutAt (loopAt (bodyOf fn_l_FnMatricesMultiplied) []) 53, cutAt (loopAt (bodyOf fn_l_FnMatricesMultiplied) []) 54, cutAt (loopAt (bodyOf fn_l_FnMatricesMultiplied) []) 55, cutAt (loopAt (bodyOf fn_l_FnMatricesMultiplied) []) 56, cutAt (loopAt (bodyOf fn_l_FnMatricesMultiplied) []) 57, cutAt (loopAt (bodyOf fn_l_FnMatricesMultiplied) []) 58, cutAt (loopAt (bodyOf fn_l_FnMatricesMultiplied) []) 59, cutAt (loopAt (bodyOf fn_l_FnMatricesMultiplied) []) 60, cutAt (loopAt (bodyOf fn_l_FnMatricesMultiplied) []) 61, cutAt (loopAt (bodyOf fn_l_FnMatricesMultiplied) []) 62, cutAt (loopAt (bodyOf fn_l_FnMatricesMultiplied) []) 63, cutAt (loopAt (bodyOf fn_l_FnMatricesMultiplied) []) 64, cutAt (loopAt (bodyOf fn_l_FnMatricesMultiplied) []) 65, cutAt (loopAt (bodyOf fn_l_FnMatricesMultiplied) []) 66, cutAt (loopAt (bodyOf fn_l_FnMatricesMultiplied) []) 67, cutAt (loopAt (bodyOf fn_l_FnMatricesMultiplied) []) 68, cutAt (loopAt (bodyOf fn_l_FnMatricesMultiplied) []) 69, cutAt (loopAt (bodyOf fn_l_FnMatricesMultiplied) []) 70, cutAt (loopAt (bodyOf fn_l_FnMatricesMultiplied) []) 71, cutAt (loopAt (bodyOf fn_l_FnMatricesMultiplied) []) 72, cutAt (loopAt (bodyOf fn_l_FnMatricesMultiplied) []) 73, cutAt (loopAt (bodyOf fn_l_FnMatricesMultiplied) []) 74, cutAt (loopAt (bodyOf fn_l_FnMatricesMultiplied) []) 75]) (by kernel_rfl) trivial (by kernel_rfl) ⟨.inl (by kernel_rfl), ⟨.inl (by kernel_rfl), ⟨.inl (by kernel_rfl), ⟨.inl (by kernel_rfl), ⟨.inl (by kernel_rfl), ⟨.inl (by kernel_rfl), ⟨.inl (by kernel_rfl), ⟨.inl (by kernel_rfl), ⟨.inr ⟨_, by kernel_rfl, l_FnMatricesMultiplied_R6_ok⟩, ⟨.inl (by kernel_rfl), ⟨.inr ⟨_, by kernel_rfl, l_FnMatricesMultiplied_C9_ok⟩, ⟨.inl (by kernel_rfl), ⟨.inl (by kernel_rfl), ⟨.inl (by kernel_rfl), ⟨.inl (by kernel_rfl), ⟨.inl (by kernel_rfl), ⟨.inl (by kernel_rfl), ⟨.inl (by kernel_rfl), ⟨.inr ⟨_, by kernel_rfl, l_FnMatricesMultiplied_R14_ok⟩, ⟨.inl (by kernel_rfl), ⟨.inl (by kernel_rfl), ⟨.inl (by kernel_rfl), ⟨.inl (by kernel_rfl), ⟨.inr ⟨_, by kernel_rfl, l_FnMatricesMultiplied_R19_ok⟩, ⟨.inl (by kernel_rfl), ⟨.inl (by kernel_rfl), ⟨.inl (by kernel_rfl), ⟨.inl (by kernel_rfl), ⟨.inl (by kernel_rfl), ⟨.inr ⟨_, by kernel_rfl, l_FnMatricesMultiplied_R24_ok⟩, ⟨.inl (by kernel_rfl), ⟨.inr ⟨_, by kernel_rfl, l_FnMatricesMultiplied_C27_ok⟩, ⟨.inl (by kernel_rfl), ⟨.inl (by kernel_rfl), ⟨.inl (by kernel_rfl), ⟨.inr ⟨_, by kernel_rfl, l_FnMatricesMultiplied_R29_ok⟩, ⟨.inl (by kernel_rfl), ⟨.inl (by kernel_rfl), ⟨.inl (by kernel_rfl), ⟨.inl (by kernel_rfl), ⟨.inl (by kernel_rfl), ⟨.inl (by kernel_rfl), ⟨.inl (by kernel_rfl), ⟨.inl (by kernel_rfl), ⟨.inl (by kernel_rfl), ⟨.inl (by kernel_rfl), ⟨.inl (by kernel_rfl), ⟨.inl (by kernel_rfl), ⟨.inl (by kernel_rfl), ⟨.inl (by kernel_rfl), ⟨.inl (by kernel_rfl), ⟨.inr ⟨_, by kernel_rfl, l_FnMatricesMultiplied_R44_ok⟩, ⟨.inl (by kernel_rfl), ⟨.inr ⟨_, by kernel_rfl, l_FnMatricesMultiplied_C47_ok⟩, ⟨.inl (by kernel_rfl), ⟨.inl (by kernel_rfl), ⟨.inr ⟨_, by kernel_rfl, l_FnMatricesMultiplied_R48_ok⟩, ⟨.inl (by kernel_rfl), ⟨.inr ⟨_, by kernel_rfl, l_FnMatricesMultiplied_C51_ok⟩, ⟨.inl (by kernel_rfl), ⟨.inl (by kernel_rfl), ⟨.inl (by kernel_rfl), ⟨.inr ⟨_, by kernel_rfl, l_FnMatricesMultiplied_R53_ok⟩, ⟨.inl (by kernel_rfl), ⟨.inl (by kernel_rfl), ⟨.inl (by kernel_rfl), ⟨.inl (by kernel_rfl), ⟨.inl (by kernel_rfl), ⟨.inr ⟨_, by kernel_rfl, l_FnMatricesMultiplied_R58_ok⟩, ⟨.inl (by kernel_rfl), ⟨.inl (by kernel_rfl), ⟨.inr ⟨_, by kernel_rfl, l_FnMatricesMultiplied_R60_ok⟩, ⟨.inl (by kernel_rfl), ⟨.inl (by kernel_rfl), ⟨.inl (by kernel_rfl), ⟨.inl (by kernel_rfl), trivial⟩⟩⟩⟩⟩⟩⟩⟩⟩⟩⟩⟩⟩⟩⟩⟩⟩⟩⟩⟩⟩⟩⟩⟩⟩⟩⟩⟩⟩⟩⟩⟩⟩⟩⟩⟩⟩⟩⟩⟩⟩⟩⟩⟩⟩⟩⟩⟩⟩⟩⟩⟩⟩⟩⟩⟩⟩⟩⟩⟩⟩⟩⟩⟩⟩⟩⟩⟩⟩⟩⟩⟩⟩⟩⟩⟩) (fun v => by kernel_rfl)

def mulR (m k : M4) : M4 × Bool := if good4 m && good4 k && good4 (mul4 m k) then (mul4 m k, true) else zM
theorem good4_tr {m : M4} (h : good4 m = true) : w64 (m.1 + m.2.2.2) = m.1 + m.2.2.2 := by
  have := good4_in h
  unfold in4 at this
  exact w64_id (by omega) (by omega)
theorem l_FnMatricesMultiplied_R6_eq (more : List Int) (m k p : M4) (ok : Bool) (h : ok = true → good4 p = true) :
    l_FnMatricesMultiplied_R6 ((more, ((), ((), ((), (ok, ((), ok)))))), (m, (k, (p, p)))) = some ((more, ((), ((), ((), (ok, false))))), (m, (k, p))) := by
  obtain ⟨m0, m1, m2, m3⟩ := m
  obtain ⟨k0, k1, k2, k3⟩ := k
  obtain ⟨p0, p1, p2, p3⟩ := p
  rw [l_FnMatricesMultiplied_R6, l_FnMatricesMultiplied_R6_step, T.run_test, if_neg (by simp), T.run_test, if_neg (by simp), T.run_test]
  cases ok with
  | false => rfl
  | true =>
    rw [if_pos rfl, T.run_sub, show i_IsMatrix (p0, (p1, (p2, p3))) = some (good4 (p0, p1, p2, p3)) from i_IsMatrix_eq _, h rfl, Option.bind_some, T.run_ret]
    rfl
theorem l_FnMatricesMultiplied_C9_eq (more : List Int) (m k : M4) :
    l_FnMatricesMultiplied_C9 ((more, ((), ((), ((), (mulR m k).2)))), (m, (k, (mulR m k).1))) = some (.inr more) := by
  unfold mulR
  cases hc : good4 m && good4 k && good4 (mul4 m k) with
  | false =>
    obtain ⟨m0, m1, m2, m3⟩ := m
    obtain ⟨k0, k1, k2, k3⟩ := k
    rfl
  | true =>
    have hc' := hc
    rw [Bool.and_eq_true, Bool.and_eq_true] at hc'
    obtain ⟨⟨gm, gk⟩, gp⟩ := hc'
    have e1 := i_InverseMatrix_eq m
    have e2 := i_InverseMatrix_eq k
    have e3 := i_InverseMatrix_eq (mul4 m k)
    have e4 := i_TimesMatrix_eq (invM k) (invM m)
    have e5 := i_TraceOf_eq (mul4 m k)
    have e6 := i_TimesMatrix_eq k m
    have e7 := i_TraceOf_eq (mul4 k m)
    have w := good4_tr gp
    have tc := mm_tr_comm m k
    rw [gm, if_pos rfl] at e1
    rw [gk, if_pos rfl] at e2
    rw [gp, if_pos rfl] at e3 e5
    rw [mm_inv_mul, good4_inv gm, good4_inv gk, good4_inv gp] at e4
    rw [gk, gm] at e6
    rw [if_pos rfl]
    generalize hP : mul4 m k = P at *
    generalize hQ : mul4 k m = Q at *
    obtain ⟨m0, m1, m2, m3⟩ := m
    obtain ⟨k0, k1, k2, k3⟩ := k
    obtain ⟨p0, p1, p2, p3⟩ := P
    obtain ⟨q0, q1, q2, q3⟩ := Q
    simp only [invM] at e1 e2 e3 e4
    simp only [Bool.true_and, Bool.and_true, if_true] at e4 e6
    simp only at w tc
    have r14 : l_FnMatricesMultiplied_R14 ((more, ((), ((), ((), (true, (true, ((), (true, ((), (true, (p0 + p3, true))))))))))), ((m0, (m1, (m2, m3))), ((k0, (k1, (k2, k3))), ((p0, (p1, (p2, p3))), ((p3, (-p1, (-p2, p0))), (p3, (-p1, (-p2, p0)))))))) =
        some ((more, ((), ((), (p0 + p3, false)))), ((m0, m1, m2, m3), (k0, k1, k2, k3))) := by
      rw [l_FnMatricesMultiplied_R14, l_FnMatricesMultiplied_R14_step, T.run_test, if_neg (by simp), T.run_test, if_neg (by simp), T.run_test, if_neg (by simp), T.run_test, if_neg (by simp), T.run_test, if_neg (by simp), T.run_test, if_neg (by simp), T.run_ret, w]
      simp
    rw [l_FnMatricesMultiplied_C9, l_FnMatricesMultiplied_C9_step, T.run_test, if_pos rfl, T.run_sub, e1, Option.bind_some, T.run_sub, e2, Option.bind_some, T.run_sub, e3, Option.bind_some, T.run_sub, e4, Option.bind_some, T.run_sub, e5, Option.bind_some, T.run_sub, r14, Option.bind_some, T.run_test, if_neg (by simp), T.run_sub, e6, Option.bind_some, T.run_test]
    cases hq : good4 (q0, q1, q2, q3) with
    | false => rfl
    | true =>
      rw [hq, if_pos rfl] at e7
      simp only [if_true]
      rw [T.run_sub, e7, Option.bind_some, T.run_sub]
      simp only [← tc]
      rw [l_FnMatricesMultiplied_R19, l_FnMatricesMultiplied_R19_step, T.run_test, if_neg (by simp), T.run_ret, Option.bind_some, T.run_test, if_neg (by simp), T.run_ret]
theorem l_FnMatricesMultiplied_R24_eq (more : List Int) (p q : M4) (n : Int) (one : Bool) :
    l_FnMatricesMultiplied_R24 ((more, ((), (n, ((), (one, ((), one)))))), (p, (q, q))) = some ((more, ((), (n, ((), (one, false))))), (p, q)) := by
  obtain ⟨p0, p1, p2, p3⟩ := p
  obtain ⟨q0, q1, q2, q3⟩ := q
  rw [l_FnMatricesMultiplied_R24, l_FnMatricesMultiplied_R24_step, T.run_test, if_neg (by simp), T.run_ret]
  simp
theorem l_FnMatricesMultiplied_C27_eq (more : List Int) (p : M4) (n : Int) :
    l_FnMatricesMultiplied_C27 ((more, ((), (n, ((), (powR p n).2)))), (p, (powR p n).1)) = some (.inr more) := by
  cases h : (powR p n).2 with
  | false =>
    obtain ⟨p0, p1, p2, p3⟩ := p
    obtain ⟨q0, q1, q2, q3⟩ := (powR (p0, p1, p2, p3) n).1
    rfl
  | true =>
    obtain ⟨hb, hg⟩ := mm_back h
    have hn : -20 ≤ n ∧ n ≤ 20 := by
      unfold powR at h
      split at h
      · rename_i hc
        rw [Bool.and_eq_true, inB_iff] at hc
        exact hc.2
      · cases h
    have e1 := i_PowerMatrix_eq p (-n)
    rw [hb] at e1
    have e2 := i_TimesMatrix_eq (powR p n).1 (invM (powR p n).1)
    rw [(mm_mul_inv hg).1, hg, good4_inv hg, mm_one_good] at e2
    have wn : w64 (0 - n) = -n := by rw [w64_id (by omega) (by omega)]; omega
    generalize (powR p n).1 = Q at *
    obtain ⟨p0, p1, p2, p3⟩ := p
    obtain ⟨q0, q1, q2, q3⟩ := Q
    simp only [invM] at e1 e2
    simp only [Bool.true_and, if_true] at e2
    rw [l_FnMatricesMultiplied_C27, l_FnMatricesMultiplied_C27_step, T.run_test, if_pos rfl, wn, T.run_sub, e1, Option.bind_some, T.run_sub, e2, Option.bind_some, T.run_sub,
      l_FnMatricesMultiplied_R29, l_FnMatricesMultiplied_R29_step, T.run_test, if_neg (by simp), T.run_test, if_neg (by simp), T.run_ret]
    rfl
theorem l_FnMatricesMultiplied_R44_eq (more : List Int) (q inv neg : M4) (order trace sign : Int) (three five nine : Bool) (tx : List UInt8) (h5 : five = good4 q) (h3 : three = true → five = true)
    (hs : s_IsMatrix q = some (good4 q)) :
    l_FnMatricesMultiplied_R44 ((more, ((), (order, (three, (order, (three, ((), (five, ((), (five, ((), (five, ((), (five, (trace, (five, (trace, (five, (sign, (five, (sign, (five, (tx, (five, (tx, five))))))))))))))))))))))))), (q, (inv, (inv, (neg, neg))))) =
      some ((more, ((), (order, (three, ((), (five, ((), (trace, (sign, false))))))))), (q, (inv, neg))) := by
  have hi := i_IsMatrix_eq q
  rw [← h5] at hi hs
  obtain ⟨q0, q1, q2, q3⟩ := q
  obtain ⟨a0, a1, a2, a3⟩ := inv
  obtain ⟨b0, b1, b2, b3⟩ := neg
  rw [l_FnMatricesMultiplied_R44, l_FnMatricesMultiplied_R44_step, T.run_test, if_neg (by simp), T.run_test, if_neg (by simp), T.run_test, if_neg (by simp), T.run_test, if_neg (by simp), T.run_test, if_neg (by simp), T.run_test, if_neg (by simp), T.run_test, if_neg (by simp), T.run_test, if_neg (by simp), T.run_test, if_neg (by simp), T.run_test, if_neg (by simp), T.run_test, if_neg (by simp), T.run_test, if_neg (by simp),
    T.run_sub, hi, Option.bind_some, T.run_test, if_neg (by simp), T.run_sub, Option.bind_some, T.run_sub, hs, Option.bind_some, T.run_test, if_neg (by simp), T.run_test, if_neg (by simp), T.run_test, if_neg (by simp), T.run_test, if_neg (by simp), T.run_test, if_neg (by simp), T.run_test]
  cases three with
  | false => rfl
  | true => rw [h3 rfl]; rfl
theorem l_FnMatricesMultiplied_C47_eq (more : List Int) (q inv neg : M4) (trace sign : Int) (hg : (if good4 q then ordI q 6 else (0, false)).2 = true → sign = fsg (q.1 + q.2.2.2)) :
    l_FnMatricesMultiplied_C47 ((more, ((), ((if good4 q then ordI q 6 else (0, false)).1, ((if good4 q then ordI q 6 else (0, false)).2, ((), (good4 q, ((), (trace, sign)))))))), (q, (inv, neg))) =
      some (.inr ((more, ((), ((if good4 q then ordI q 6 else (0, false)).2, ((), (good4 q, ((), (trace, sign))))))), (q, (inv, neg)))) := by
  obtain ⟨a0, a1, a2, a3⟩ := inv
  obtain ⟨b0, b1, b2, b3⟩ := neg
  cases h : (if good4 q then ordI q 6 else (0, false)).2 with
  | false =>
    obtain ⟨q0, q1, q2, q3⟩ := q
    rfl
  | true =>
    have gq : good4 q = true := by
      cases hq : good4 q with
      | true => rfl
      | false => rw [hq] at h; cases h
    have hsg := hg h
    rw [gq] at h ⊢
    simp only [if_true] at h ⊢
    obtain ⟨h1, h2, h3, h4⟩ := mm_order gq h
    rw [← hsg] at h4
    have e1 := i_PowerMatrix_eq q (ordI q 6).1
    rw [h1] at e1
    generalize (ordI q 6).1 = o at *
    obtain ⟨q0, q1, q2, q3⟩ := q
    simp only [one4] at e1
    rw [l_FnMatricesMultiplied_C47, l_FnMatricesMultiplied_C47_step, T.run_test, if_pos rfl, T.run_sub, e1, Option.bind_some, T.run_sub,
      l_FnMatricesMultiplied_R48, l_FnMatricesMultiplied_R48_step, T.run_test, if_neg (by simp), T.run_test, if_neg (by simp), T.run_test, if_neg (by rw [beq_iff_eq]; exact h2), T.run_test, if_neg (by rw [decide_eq_true_eq]; exact h3), T.run_test]
    by_cases h6 : o > 2
    · rw [if_pos (decide_eq_true h6), T.run_ret, h4 h6]; rfl
    · rw [if_neg (by rw [decide_eq_true_eq]; exact h6), T.run_ret]; rfl
theorem l_FnMatricesMultiplied_C51_eq (more : List Int) (q : M4) (three : Bool) (trace sign : Int) (inv neg : M4) (hv : good4 q = true → inv = invM q ∧ neg = negM q ∧ trace = q.1 + q.2.2.2 ∧ sign = fsg (q.1 + q.2.2.2) ∧ three = (ordI q 6).2) :
    l_FnMatricesMultiplied_C51 ((more, ((), (three, ((), (good4 q, ((), (trace, sign))))))), (q, (inv, neg))) = some (.inr more) := by
  cases gq : good4 q with
  | false =>
    obtain ⟨q0, q1, q2, q3⟩ := q
    obtain ⟨a0, a1, a2, a3⟩ := inv
    obtain ⟨b0, b1, b2, b3⟩ := neg
    rfl
  | true =>
    obtain ⟨h1, h2, h3, h4, h5⟩ := hv gq
    have e1 := i_InverseMatrix_eq (invM q)
    have e2 := i_NegateMatrix_eq (negM q)
    rw [good4_inv gq, if_pos rfl, mm_inv_inv] at e1
    rw [mm_neg_good gq, if_pos rfl, mm_neg_neg] at e2
    have hs := @mm_sign q
    rw [← h4, ← h5] at hs
    have hb := good4_in gq
    unfold in4 at hb
    unfold fsg at h4
    rw [← h3] at h4
    have r53 : l_FnMatricesMultiplied_R53 ((more, ((), (three, (trace, (sign, ((), (true, ((), true)))))))), (q, (q, q))) = some (more, false) := by
      obtain ⟨q0, q1, q2, q3⟩ := q
      simp only at h3 hb
      rw [l_FnMatricesMultiplied_R53, l_FnMatricesMultiplied_R53_step, T.run_test, if_neg (by simp), T.run_test, if_neg (by simp), T.run_test, if_neg (by simp), T.run_test, if_neg (by simp), T.run_test]
      by_cases s1 : sign = -1
      · have ht : -2 < trace ∧ trace < 2 := by
          rcases Decidable.em (-2 < trace ∧ trace < 2) with c | c
          · exact c
          · rw [if_neg c] at h4; split at h4 <;> omega
        have hw : ¬ w64 (trace * trace) ≥ 4 := by
          have : trace = -1 ∨ trace = 0 ∨ trace = 1 := by omega
          rcases this with c | c | c <;> rw [c] <;> decide
        rw [if_pos (by rw [beq_iff_eq]; exact s1), T.run_test, if_neg (by rw [hs s1]; simp), T.run_test, if_pos (by rw [beq_iff_eq]; exact s1), T.run_test, if_neg (by rw [decide_eq_true_eq]; exact hw), T.run_test, if_neg (by rw [beq_iff_eq]; omega), T.run_ret]
      · rw [if_neg (by rw [beq_iff_eq]; exact s1), T.run_test, if_neg (by rw [beq_iff_eq]; exact s1), T.run_test]
        by_cases s0 : sign = 0
        · have ht : trace = 2 ∨ trace = -2 := by
            rcases Decidable.em (-2 < trace ∧ trace < 2) with c | c
            · rw [if_pos c] at h4; omega
            · rw [if_neg c] at h4
              rcases Decidable.em (trace = 2 ∨ trace = -2) with c2 | c2
              · exact c2
              · rw [if_neg c2] at h4; omega
          rw [if_pos (by rw [beq_iff_eq]; exact s0), T.run_test]
          rcases ht with c | c
          · rw [c]; rfl
          · rw [c]; rfl
        · rw [if_neg (by rw [beq_iff_eq]; exact s0), T.run_ret]
    subst h1 h2
    obtain ⟨q0, q1, q2, q3⟩ := q
    simp only [invM, negM] at e1 e2
    simp only [invM, negM]
    rw [l_FnMatricesMultiplied_C51, l_FnMatricesMultiplied_C51_step, T.run_test, if_pos rfl, T.run_sub, e1, Option.bind_some, T.run_sub, e2, Option.bind_some, T.run_sub, r53, Option.bind_some, T.run_test, if_neg (by simp), T.run_ret]
theorem conjR_tr {x y g : M4} (h : (conjR x y g).2 = true) (hi : (conjR x y g).1 = true) : good4 x = true ∧ good4 y = true ∧ x.1 + x.2.2.2 = y.1 + y.2.2.2 := by
  unfold conjR at h hi
  split at h
  · rename_i hc
    rw [if_pos hc] at hi
    simp only [Bool.and_eq_true] at hc
    simp only [decide_eq_true_eq] at hi
    refine ⟨hc.1.1.1.2, hc.1.2, ?_⟩
    rw [← hi, mm_conj hc.1.1.1.1]
  · cases h
theorem l_FnMatricesMultiplied_true (v : List Int × List Int) (hs : smallL ASh.small [.one (.sl (.int .u8) false true), .one (.sl (.int .u8) false true)] v) : l_FnMatricesMultiplied v = some true := by
  obtain ⟨code, more⟩ := v
  have hb : ∀ l : List Int, (∀ x ∈ l, wfE (.int .u8) x) → bytesOK l := fun l h x hx => by
    have := h x hx
    simp [wfE, Lit.wf, IntKind.min, IntKind.max, IntKind.signed, IntKind.bits] at this
    omega
  have b1 : bytesOK code := hb code hs.1.2
  have b2 : bytesOK more := hb more hs.2.2
  obtain ⟨b, hbig⟩ : ∃ b, l_big (code, more) = some b := by
    rw [l_big, l_big_t, T.run_test]
    split
    · exact ⟨_, rfl⟩
    · exact ⟨_, rfl⟩
  obtain ⟨m, k, d1⟩ := s_DrawTimesMatrix_some b1
  have i1 : i_TimesMatrix (m, k) = some (mulR m k) := i_TimesMatrix_eq m k
  have s1 : s_TimesMatrix (m, k) = some (mulR m k) := s_TimesMatrix_eq m k
  have gp : (mulR m k).2 = true → good4 (mulR m k).1 = true := by
    unfold mulR
    split
    · rename_i hc; rw [Bool.and_eq_true, Bool.and_eq_true] at hc; exact fun _ => hc.2
    · intro h; cases h
  have r6 := l_FnMatricesMultiplied_R6_eq more m k (mulR m k).1 (mulR m k).2 gp
  have c9 := l_FnMatricesMultiplied_C9_eq more m k
  obtain ⟨p, n, d2⟩ := s_DrawPowerMatrix_some b2
  have i2 := i_PowerMatrix_eq p n
  have s2 := s_PowerMatrix_eq p n
  have r24 := l_FnMatricesMultiplied_R24_eq more p (powR p n).1 n (powR p n).2
  have c27 := l_FnMatricesMultiplied_C27_eq more p n
  obtain ⟨q, d3⟩ := s_DrawOrderOf_some b2
  have i3 := i_OrderOf_eq q
  have s3 := s_OrderOf_eq q
  have hord : (if good4 q then ordS q 6 else (0, false)) = (if good4 q then ordI q 6 else (0, false)) := by
    cases hq : good4 q with
    | true => simp only [if_true]; exact (ord_eq q hq).symm
    | false => rfl
  rw [hord] at s3
  have i4 : i_InverseMatrix q = some ((if good4 q then invM q else (0, 0, 0, 0)), good4 q) := by rw [i_InverseMatrix_eq]; cases good4 q <;> rfl
  have s4 : s_InverseMatrix q = some ((if good4 q then invM q else (0, 0, 0, 0)), good4 q) := by rw [s_InverseMatrix_eq]; cases good4 q <;> rfl
  have i5 : i_NegateMatrix q = some ((if good4 q then negM q else (0, 0, 0, 0)), good4 q) := by rw [i_NegateMatrix_eq]; cases good4 q <;> rfl
  have s5 : s_NegateMatrix q = some ((if good4 q then negM q else (0, 0, 0, 0)), good4 q) := by rw [s_NegateMatrix_eq]; cases good4 q <;> rfl
  have i6 : i_TraceOf q = some ((if good4 q then q.1 + q.2.2.2 else 0), good4 q) := by rw [i_TraceOf_eq]; cases good4 q <;> rfl
  have s6 : s_TraceOf q = some ((if good4 q then q.1 + q.2.2.2 else 0), good4 q) := by rw [s_TraceOf_eq]; cases good4 q <;> rfl
  have i7 : i_FixedSign q = some ((if good4 q then fsg (q.1 + q.2.2.2) else 0), good4 q) := by rw [i_FixedSign_eq]; cases good4 q <;> rfl
  have s7 : s_FixedSign q = some ((if good4 q then fsg (q.1 + q.2.2.2) else 0), good4 q) := by rw [s_FixedSign_eq]; cases good4 q <;> rfl
  have i8 : i_MatrixText q = some ((if good4 q then txM q else []), good4 q) := by rw [i_MatrixText_eq]; cases good4 q <;> rfl
  have s8 : s_MatrixText q = some ((if good4 q then txM q else []), good4 q) := by rw [s_MatrixText_eq]; cases good4 q <;> rfl
  have sm : s_IsMatrix q = some (good4 q) := by
    obtain ⟨q0, q1, q2, q3⟩ := q
    rw [s_IsMatrix, s_IsMatrix_t, T.run_sub, show s_mxGood (q0, (q1, (q2, q3))) = some (good4 (q0, q1, q2, q3)) from s_mxGood_eq _, Option.bind_some, T.run_ret]
  have h35 : (if good4 q then ordI q 6 else (0, false)).2 = true → good4 q = true := by
    cases good4 q with
    | true => intro _; rfl
    | false => intro h; cases h
  have r44 := l_FnMatricesMultiplied_R44_eq more q (if good4 q then invM q else (0, 0, 0, 0)) (if good4 q then negM q else (0, 0, 0, 0)) (if good4 q then ordI q 6 else (0, false)).1 (if good4 q then q.1 + q.2.2.2 else 0) (if good4 q then fsg (q.1 + q.2.2.2) else 0)
    (if good4 q then ordI q 6 else (0, false)).2 (good4 q) (good4 q) (if good4 q then txM q else []) rfl h35 sm
  have c47 := l_FnMatricesMultiplied_C47_eq more q (if good4 q then invM q else (0, 0, 0, 0)) (if good4 q then negM q else (0, 0, 0, 0)) (if good4 q then q.1 + q.2.2.2 else 0) (if good4 q then fsg (q.1 + q.2.2.2) else 0) (fun h => by rw [h35 h, if_pos rfl])
  have c51 := l_FnMatricesMultiplied_C51_eq more q (if good4 q then ordI q 6 else (0, false)).2 (if good4 q then q.1 + q.2.2.2 else 0) (if good4 q then fsg (q.1 + q.2.2.2) else 0) (if good4 q then invM q else (0, 0, 0, 0)) (if good4 q then negM q else (0, 0, 0, 0))
    (fun h => by rw [h]; exact ⟨rfl, rfl, rfl, rfl, rfl⟩)
  obtain ⟨x, y, g, d4⟩ := s_DrawIsConjugateBy_some b2
  have i9 := i_IsConjugateBy_eq x y g
  have s9 := s_IsConjugateBy_eq x y g
  have hcj := @conjR_tr x y g
  have tx := i_TraceOf_eq x
  have ty := i_TraceOf_eq y
  generalize mulR m k = A at *
  generalize powR p n = B at *
  generalize (if good4 q then ordI q 6 else (0, false)) = O at *
  generalize (if good4 q then invM q else (0, 0, 0, 0)) = I at *
  generalize (if good4 q then negM q else (0, 0, 0, 0)) = N at *
  generalize (if good4 q then q.1 + q.2.2.2 else 0) = t at *
  generalize (if good4 q then fsg (q.1 + q.2.2.2) else 0) = sg at *
  generalize (if good4 q then txM q else []) = te at *
  generalize conjR x y g = C at *
  obtain ⟨⟨a0, a1, a2, a3⟩, aok⟩ := A
  obtain ⟨⟨v0, v1, v2, v3⟩, bok⟩ := B
  obtain ⟨o, ook⟩ := O
  obtain ⟨I0, I1, I2, I3⟩ := I
  obtain ⟨N0, N1, N2, N3⟩ := N
  obtain ⟨c0, cok⟩ := C
  obtain ⟨m0, m1, m2, m3⟩ := m
  obtain ⟨k0, k1, k2, k3⟩ := k
  obtain ⟨p0, p1, p2, p3⟩ := p
  obtain ⟨q0, q1, q2, q3⟩ := q
  obtain ⟨x0, x1, x2, x3⟩ := x
  obtain ⟨y0, y1, y2, y3⟩ := y
  obtain ⟨g0, g1, g2, g3⟩ := g
  rw [l_FnMatricesMultiplied, l_FnMatricesMultiplied_t, T.run_sub, hbig, Option.bind_some, T.run_test]
  cases b with
  | true => rfl
  | false =>
    rw [if_neg (by simp), T.run_sub, d1, Option.bind_some, T.run_sub, i1, Option.bind_some, T.run_sub, s1, Option.bind_some, T.run_sub, r6, Option.bind_some, T.run_test, if_neg (by simp), T.run_sub, c9, Option.bind_some, T.run_test, if_neg (by simp [Sum.isLeft]), T.run_sub]
    simp only [Sum.getRight?, Option.bind_some]
    rw [T.run_sub, d2, Option.bind_some, T.run_sub, i2, Option.bind_some, T.run_sub, s2, Option.bind_some, T.run_sub, r24, Option.bind_some, T.run_test, if_neg (by simp), T.run_sub, c27, Option.bind_some, T.run_test, if_neg (by simp [Sum.isLeft]), T.run_sub]
    simp only [Sum.getRight?, Option.bind_some]
    rw [T.run_sub, d3, Option.bind_some, T.run_sub, i3, Option.bind_some, T.run_sub, s3, Option.bind_some, T.run_sub, i4, Option.bind_some, T.run_sub, s4, Option.bind_some, T.run_sub, i5, Option.bind_some, T.run_sub, s5, Option.bind_some, T.run_sub, i6, Option.bind_some, T.run_sub, s6, Option.bind_some, T.run_sub, i7, Option.bind_some, T.run_sub, s7, Option.bind_some, T.run_sub, i8, Option.bind_some, T.run_sub, s8, Option.bind_some,
      T.run_sub, r44, Option.bind_some, T.run_test, if_neg (by simp), T.run_sub, c47, Option.bind_some, T.run_test, if_neg (by simp [Sum.isLeft]), T.run_sub]
    simp only [Sum.getRight?, Option.bind_some]
    rw [T.run_sub, c51, Option.bind_some, T.run_test, if_neg (by simp [Sum.isLeft]), T.run_sub]
    simp only [Sum.getRight?, Option.bind_some]
    rw [T.run_sub, d4, Option.bind_some, T.run_sub, i9, Option.bind_some, T.run_sub, s9, Option.bind_some, T.run_sub, l_FnMatricesMultiplied_R58, l_FnMatricesMultiplied_R58_step, T.run_test, if_neg (by simp), T.run_ret, Option.bind_some, T.run_test, if_neg (by simp), T.run_sub,
      l_FnMatricesMultiplied_R60, l_FnMatricesMultiplied_R60_step, T.run_test]
    cases cok with
    | false => rfl
    | true =>
      rw [if_pos rfl, T.run_ret, Option.bind_some, T.run_test]
      cases c0 with
      | false => rfl
      | true =>
        obtain ⟨h1, h2, h3⟩ := hcj rfl rfl
        rw [h1, if_pos rfl] at tx
        rw [h2, if_pos rfl, ← h3] at ty
        rw [if_pos rfl, T.run_sub, tx, Option.bind_some, T.run_sub, ty, Option.bind_some, T.run_test, if_pos rfl, T.run_test, if_pos rfl, T.run_ret]
        simp


end Go.Proofs.W
