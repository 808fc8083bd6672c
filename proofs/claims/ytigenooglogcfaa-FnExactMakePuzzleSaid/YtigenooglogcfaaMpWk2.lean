/- Functions of the program, walked, and what they compute. -/
import Derived.Test.YtigenooglogcfaaMpWk1
set_option linter.unusedVariables false
set_option linter.unusedSimpArgs false
set_option maxRecDepth 100000
set_option maxHeartbeats 4000000
namespace Go.Proofs.W
open Go Go.Gm Go.Proofs
open Go.RowKit Go.Shelf
def s_IsQuiddity_sh : FSh := ⟨[(.one (.sl (.int .i64) false false))], []⟩

def s_IsQuiddity_fo : List FO := [⟨[(.one .sb)], []⟩]
noncomputable def s_IsQuiddity_t : List (Int) → T Bool := fun quiddity =>
  (.sub (s_poOf quiddity) fun z0 =>
  (.ret z0.1.2))
noncomputable def s_IsQuiddity (v : List (Int)) : Option Bool := (s_IsQuiddity_t v).run
noncomputable def s_IsQuiddity_E : TEnv := (E0.add1 n_s_poOf s_poOf_sh s_poOf_fo s_poOf)
theorem s_IsQuiddity_Eok : (s_IsQuiddity_E).OK := (E0ok.add1 s_poOf_ok)
noncomputable def s_IsQuiddity_told : Nat → Option SealT := fun id => none
theorem s_IsQuiddity_ok : FOK Try.prog n_s_IsQuiddity s_IsQuiddity_sh s_IsQuiddity_fo s_IsQuiddity :=
  fn_ok (E := s_IsQuiddity_E) (s_IsQuiddity_Eok) (told := s_IsQuiddity_told) (fl := []) (c := bodyOf fn_s_IsQuiddity) (s := s_IsQuiddity_sh) (l := s_IsQuiddity_fo) (tree := s_IsQuiddity_t) fnat_s_IsQuiddity (by kernel_rfl) (by kernel_rfl) (by kernel_rfl) (loopsOK_of (ls := []) (by kernel_rfl) trivial) (fun v => by kernel_rfl)

theorem s_IsQuiddity_eq (l : List Int) (hl : l.length < 4611686018427387904) : s_IsQuiddity l = some (trOf l).isSome := by
  obtain ⟨r, _, h, _⟩ := s_poOf_eq l hl
  simp only [s_IsQuiddity, s_IsQuiddity_t, T.run, h, Option.bind_some]
  cases trOf l <;> rfl



/-- An ear glued on. -/
def glueL (q : List Int) (at' : Nat) : List Int :=
  let m := q.take at' ++ 1 :: q.drop at'
  let m1 := m.set (at' - 1) (m.getD (at' - 1) 0 + 1)
  m1.set ((at' + 1) % (q.length + 1)) (m1.getD ((at' + 1) % (q.length + 1)) 0 + 1)
def gluedL0 : List (List Int) := [[1, 1, 1]]
def gluedL1 : List (List Int) := [[1, 2, 1, 2], [2, 1, 2, 1]]
def gluedL2 : List (List Int) := [[1, 2, 2, 1, 3], [1, 3, 1, 2, 2], [2, 1, 3, 1, 2], [2, 2, 1, 3, 1], [3, 1, 2, 2, 1]]
def gluedL3 : List (List Int) := [[1, 2, 2, 2, 1, 4], [1, 2, 3, 1, 2, 3], [1, 3, 1, 3, 1, 3], [1, 3, 2, 1, 3, 2], [1, 4, 1, 2, 2, 2], [2, 1, 3, 2, 1, 3], [2, 1, 4, 1, 2, 2], [2, 2, 1, 4, 1, 2], [2, 2, 2, 1, 4, 1], [2, 3, 1, 2, 3, 1], [3, 1, 2, 3, 1, 2], [3, 1, 3, 1, 3, 1], [3, 2, 1, 3, 2, 1], [4, 1, 2, 2, 2, 1]]
def gluedL4 : List (List Int) := [[1, 2, 2, 2, 2, 1, 5], [1, 2, 2, 3, 1, 2, 4], [1, 2, 3, 1, 3, 1, 4], [1, 2, 3, 2, 1, 3, 3], [1, 2, 4, 1, 2, 2, 3], [1, 3, 1, 3, 2, 1, 4], [1, 3, 1, 4, 1, 2, 3], [1, 3, 2, 1, 4, 1, 3], [1, 3, 2, 2, 1, 4, 2], [1, 3, 3, 1, 2, 3, 2], [1, 4, 1, 2, 3, 1, 3], [1, 4, 1, 3, 1, 3, 2], [1, 4, 2, 1, 3, 2, 2], [1, 5, 1, 2, 2, 2, 2], [2, 1, 3, 2, 2, 1, 4], [2, 1, 3, 3, 1, 2, 3], [2, 1, 4, 1, 3, 1, 3], [2, 1, 4, 2, 1, 3, 2], [2, 1, 5, 1, 2, 2, 2], [2, 2, 1, 4, 2, 1, 3], [2, 2, 1, 5, 1, 2, 2], [2, 2, 2, 1, 5, 1, 2], [2, 2, 2, 2, 1, 5, 1], [2, 2, 3, 1, 2, 4, 1], [2, 3, 1, 2, 4, 1, 2], [2, 3, 1, 3, 1, 4, 1], [2, 3, 2, 1, 3, 3, 1], [2, 4, 1, 2, 2, 3, 1], [3, 1, 2, 3, 2, 1, 3], [3, 1, 2, 4, 1, 2, 2], [3, 1, 3, 1, 4, 1, 2], [3, 1, 3, 2, 1, 4, 1], [3, 1, 4, 1, 2, 3, 1], [3, 2, 1, 3, 3, 1, 2], [3, 2, 1, 4, 1, 3, 1], [3, 2, 2, 1, 4, 2, 1], [3, 3, 1, 2, 3, 2, 1], [4, 1, 2, 2, 3, 1, 2], [4, 1, 2, 3, 1, 3, 1], [4, 1, 3, 1, 3, 2, 1], [4, 2, 1, 3, 2, 2, 1], [5, 1, 2, 2, 2, 2, 1]]
def gluedL5 : List (List Int) := [[1, 2, 2, 2, 2, 2, 1, 6], [1, 2, 2, 2, 3, 1, 2, 5], [1, 2, 2, 3, 1, 3, 1, 5], [1, 2, 2, 3, 2, 1, 3, 4], [1, 2, 2, 4, 1, 2, 2, 4], [1, 2, 3, 1, 3, 2, 1, 5], [1, 2, 3, 1, 4, 1, 2, 4], [1, 2, 3, 2, 1, 4, 1, 4], [1, 2, 3, 2, 2, 1, 4, 3], [1, 2, 3, 3, 1, 2, 3, 3], [1, 2, 4, 1, 2, 3, 1, 4], [1, 2, 4, 1, 3, 1, 3, 3], [1, 2, 4, 2, 1, 3, 2, 3], [1, 2, 5, 1, 2, 2, 2, 3], [1, 3, 1, 3, 2, 2, 1, 5], [1, 3, 1, 3, 3, 1, 2, 4], [1, 3, 1, 4, 1, 3, 1, 4], [1, 3, 1, 4, 2, 1, 3, 3], [1, 3, 1, 5, 1, 2, 2, 3], [1, 3, 2, 1, 4, 2, 1, 4], [1, 3, 2, 1, 5, 1, 2, 3], [1, 3, 2, 2, 1, 5, 1, 3], [1, 3, 2, 2, 2, 1, 5, 2], [1, 3, 2, 3, 1, 2, 4, 2], [1, 3, 3, 1, 2, 4, 1, 3], [1, 3, 3, 1, 3, 1, 4, 2], [1, 3, 3, 2, 1, 3, 3, 2], [1, 3, 4, 1, 2, 2, 3, 2], [1, 4, 1, 2, 3, 2, 1, 4], [1, 4, 1, 2, 4, 1, 2, 3], [1, 4, 1, 3, 1, 4, 1, 3], [1, 4, 1, 3, 2, 1, 4, 2], [1, 4, 1, 4, 1, 2, 3, 2], [1, 4, 2, 1, 3, 3, 1, 3], [1, 4, 2, 1, 4, 1, 3, 2], [1, 4, 2, 2, 1, 4, 2, 2], [1, 4, 3, 1, 2, 3, 2, 2], [1, 5, 1, 2, 2, 3, 1, 3], [1, 5, 1, 2, 3, 1, 3, 2], [1, 5, 1, 3, 1, 3, 2, 2], [1, 5, 2, 1, 3, 2, 2, 2], [1, 6, 1, 2, 2, 2, 2, 2], [2, 1, 3, 2, 2, 2, 1, 5], [2, 1, 3, 2, 3, 1, 2, 4], [2, 1, 3, 3, 1, 3, 1, 4], [2, 1, 3, 3, 2, 1, 3, 3], [2, 1, 3, 4, 1, 2, 2, 3], [2, 1, 4, 1, 3, 2, 1, 4], [2, 1, 4, 1, 4, 1, 2, 3], [2, 1, 4, 2, 1, 4, 1, 3], [2, 1, 4, 2, 2, 1, 4, 2], [2, 1, 4, 3, 1, 2, 3, 2], [2, 1, 5, 1, 2, 3, 1, 3], [2, 1, 5, 1, 3, 1, 3, 2], [2, 1, 5, 2, 1, 3, 2, 2], [2, 1, 6, 1, 2, 2, 2, 2], [2, 2, 1, 4, 2, 2, 1, 4], [2, 2, 1, 4, 3, 1, 2, 3], [2, 2, 1, 5, 1, 3, 1, 3], [2, 2, 1, 5, 2, 1, 3, 2], [2, 2, 1, 6, 1, 2, 2, 2], [2, 2, 2, 1, 5, 2, 1, 3], [2, 2, 2, 1, 6, 1, 2, 2], [2, 2, 2, 2, 1, 6, 1, 2], [2, 2, 2, 2, 2, 1, 6, 1], [2, 2, 2, 3, 1, 2, 5, 1], [2, 2, 3, 1, 2, 5, 1, 2], [2, 2, 3, 1, 3, 1, 5, 1], [2, 2, 3, 2, 1, 3, 4, 1], [2, 2, 4, 1, 2, 2, 4, 1], [2, 3, 1, 2, 4, 2, 1, 3], [2, 3, 1, 2, 5, 1, 2, 2], [2, 3, 1, 3, 1, 5, 1, 2], [2, 3, 1, 3, 2, 1, 5, 1], [2, 3, 1, 4, 1, 2, 4, 1], [2, 3, 2, 1, 3, 4, 1, 2], [2, 3, 2, 1, 4, 1, 4, 1], [2, 3, 2, 2, 1, 4, 3, 1], [2, 3, 3, 1, 2, 3, 3, 1], [2, 4, 1, 2, 2, 4, 1, 2], [2, 4, 1, 2, 3, 1, 4, 1], [2, 4, 1, 3, 1, 3, 3, 1], [2, 4, 2, 1, 3, 2, 3, 1], [2, 5, 1, 2, 2, 2, 3, 1], [3, 1, 2, 3, 2, 2, 1, 4], [3, 1, 2, 3, 3, 1, 2, 3], [3, 1, 2, 4, 1, 3, 1, 3], [3, 1, 2, 4, 2, 1, 3, 2], [3, 1, 2, 5, 1, 2, 2, 2], [3, 1, 3, 1, 4, 2, 1, 3], [3, 1, 3, 1, 5, 1, 2, 2], [3, 1, 3, 2, 1, 5, 1, 2], [3, 1, 3, 2, 2, 1, 5, 1], [3, 1, 3, 3, 1, 2, 4, 1], [3, 1, 4, 1, 2, 4, 1, 2], [3, 1, 4, 1, 3, 1, 4, 1], [3, 1, 4, 2, 1, 3, 3, 1], [3, 1, 5, 1, 2, 2, 3, 1], [3, 2, 1, 3, 3, 2, 1, 3], [3, 2, 1, 3, 4, 1, 2, 2], [3, 2, 1, 4, 1, 4, 1, 2], [3, 2, 1, 4, 2, 1, 4, 1], [3, 2, 1, 5, 1, 2, 3, 1], [3, 2, 2, 1, 4, 3, 1, 2], [3, 2, 2, 1, 5, 1, 3, 1], [3, 2, 2, 2, 1, 5, 2, 1], [3, 2, 3, 1, 2, 4, 2, 1], [3, 3, 1, 2, 3, 3, 1, 2], [3, 3, 1, 2, 4, 1, 3, 1], [3, 3, 1, 3, 1, 4, 2, 1], [3, 3, 2, 1, 3, 3, 2, 1], [3, 4, 1, 2, 2, 3, 2, 1], [4, 1, 2, 2, 3, 2, 1, 3], [4, 1, 2, 2, 4, 1, 2, 2], [4, 1, 2, 3, 1, 4, 1, 2], [4, 1, 2, 3, 2, 1, 4, 1], [4, 1, 2, 4, 1, 2, 3, 1], [4, 1, 3, 1, 3, 3, 1, 2], [4, 1, 3, 1, 4, 1, 3, 1], [4, 1, 3, 2, 1, 4, 2, 1], [4, 1, 4, 1, 2, 3, 2, 1], [4, 2, 1, 3, 2, 3, 1, 2], [4, 2, 1, 3, 3, 1, 3, 1], [4, 2, 1, 4, 1, 3, 2, 1], [4, 2, 2, 1, 4, 2, 2, 1], [4, 3, 1, 2, 3, 2, 2, 1], [5, 1, 2, 2, 2, 3, 1, 2], [5, 1, 2, 2, 3, 1, 3, 1], [5, 1, 2, 3, 1, 3, 2, 1], [5, 1, 3, 1, 3, 2, 2, 1], [5, 2, 1, 3, 2, 2, 2, 1], [6, 1, 2, 2, 2, 2, 2, 1]]
/-- All lists made by gluing. -/
def glued : Nat → List (List Int)
  | 0 => gluedL0 | 1 => gluedL1 | 2 => gluedL2 | 3 => gluedL3 | 4 => gluedL4 | 5 => gluedL5 | _ => []
theorem glued_ok0 : ∀ q ∈ gluedL0, (trOf q).isSome = true ∧ q.length = 3 ∧ ∀ v ∈ q, 1 ≤ v ∧ v ≤ 12 := by decide +kernel
theorem glued_ok1 : ∀ q ∈ gluedL1, (trOf q).isSome = true ∧ q.length = 4 ∧ ∀ v ∈ q, 1 ≤ v ∧ v ≤ 12 := by decide +kernel
theorem glued_ok2 : ∀ q ∈ gluedL2, (trOf q).isSome = true ∧ q.length = 5 ∧ ∀ v ∈ q, 1 ≤ v ∧ v ≤ 12 := by decide +kernel
theorem glued_ok3 : ∀ q ∈ gluedL3, (trOf q).isSome = true ∧ q.length = 6 ∧ ∀ v ∈ q, 1 ≤ v ∧ v ≤ 12 := by decide +kernel
theorem glued_ok4 : ∀ q ∈ gluedL4, (trOf q).isSome = true ∧ q.length = 7 ∧ ∀ v ∈ q, 1 ≤ v ∧ v ≤ 12 := by decide +kernel
theorem glued_ok5 : ∀ q ∈ gluedL5, (trOf q).isSome = true ∧ q.length = 8 ∧ ∀ v ∈ q, 1 ≤ v ∧ v ≤ 12 := by decide +kernel
theorem glued_go0 : ∀ q ∈ gluedL0, ∀ j, j < 3 → glueL q (j + 1) ∈ gluedL1 := by decide +kernel
theorem glued_go1 : ∀ q ∈ gluedL1, ∀ j, j < 4 → glueL q (j + 1) ∈ gluedL2 := by decide +kernel
theorem glued_go2 : ∀ q ∈ gluedL2, ∀ j, j < 5 → glueL q (j + 1) ∈ gluedL3 := by decide +kernel
theorem glued_go3 : ∀ q ∈ gluedL3, ∀ j, j < 6 → glueL q (j + 1) ∈ gluedL4 := by decide +kernel
theorem glued_go4 : ∀ q ∈ gluedL4, ∀ j, j < 7 → glueL q (j + 1) ∈ gluedL5 := by decide +kernel
theorem glued_ok (k : Nat) (q : List Int) (h : q ∈ glued k) : (trOf q).isSome = true ∧ q.length = k + 3 ∧ ∀ v ∈ q, 1 ≤ v ∧ v ≤ 12 := by
  match k, h with
  | 0, h => exact glued_ok0 q h
  | 1, h => exact glued_ok1 q h
  | 2, h => exact glued_ok2 q h
  | 3, h => exact glued_ok3 q h
  | 4, h => exact glued_ok4 q h
  | 5, h => exact glued_ok5 q h
  | k + 6, h => exact absurd h (by simp [glued])
theorem glued_go (k : Nat) (hk : k < 5) (q : List Int) (h : q ∈ glued k) (j : Nat) (hj : j < k + 3) : glueL q (j + 1) ∈ glued (k + 1) := by
  match k, h with
  | 0, h => exact glued_go0 q h j hj
  | 1, h => exact glued_go1 q h j hj
  | 2, h => exact glued_go2 q h j hj
  | 3, h => exact glued_go3 q h j hj
  | 4, h => exact glued_go4 q h j hj
theorem glueL_facts {q : List Int} {at' : Nat} (h1 : 1 ≤ at') (h2 : at' ≤ q.length) (hl : 3 ≤ q.length) (hv : ∀ v ∈ q, 1 ≤ v ∧ v ≤ 12) :
    (q.take at' ++ 1 :: q.drop at').length = q.length + 1 ∧ (∀ p, p < q.length + 1 → 1 ≤ (q.take at' ++ 1 :: q.drop at').getD p 0 ∧ (q.take at' ++ 1 :: q.drop at').getD p 0 ≤ 12) ∧ (at' + 1) % (q.length + 1) < q.length + 1 ∧ (at' + 1) % (q.length + 1) ≠ at' - 1 := by
  refine ⟨by simp; omega, fun p hp => ?_, Nat.mod_lt _ (by omega), ?_⟩
  · have hlt : p < (q.take at' ++ 1 :: q.drop at').length := by simp; omega
    rw [List.getD_eq_getElem?_getD, List.getElem?_eq_getElem hlt, Option.getD_some]
    have := List.getElem_mem hlt
    rcases List.mem_append.1 this with h | h
    · exact hv _ (List.mem_of_mem_take h)
    · rcases List.mem_cons.1 h with h | h
      · rw [h]; omega
      · exact hv _ (List.mem_of_mem_drop h)
  · by_cases h : at' = q.length
    · rw [h, Nat.mod_self]; omega
    · rw [Nat.mod_eq_of_lt (by omega)]; omega
def rI (z : Int) : Int := (z * 187 + 3301) % 10007
def mkN : Nat → List Int → Int → List Int × Int
  | 0, q, z => (q, z)
  | m + 1, q, z => mkN m (glueL q ((rI z % (q.length : Int)).toNat + 1)) (rI z)
theorem rI_B (z : Int) : 0 ≤ rI z ∧ rI z < 10007 := by unfold rI; omega
theorem rI_w {z : Int} (h1 : 0 ≤ z) (h2 : z < 10007) : Int.tmod (w64 ((w64 (z * 187)) + 3301)) (10007 : Int) = rI z := by
  rw [w64_id (z := z * 187) (by omega) (by omega), w64_id (by omega) (by omega), Int.tmod_eq_emod_of_nonneg (by omega)]
  rfl
theorem mkN_facts : ∀ (m k : Nat) (q : List Int) (z : Int), q ∈ glued k → k + m ≤ 6 → 0 ≤ z → z < 10007 → ((mkN m q z).1.length = k + 3 + m ∧ ∀ v ∈ (mkN m q z).1, 1 ≤ v ∧ v ≤ 100) ∧ 0 ≤ (mkN m q z).2 ∧ (mkN m q z).2 < 10007
  | 0, k, q, z, hq, hk, h1, h2 => by
    obtain ⟨_, g1, g2⟩ := glued_ok k q hq
    exact ⟨⟨g1, fun v hv => by have := g2 v hv; omega⟩, h1, h2⟩
  | m + 1, k, q, z, hq, hk, h1, h2 => by
    obtain ⟨g0, g1, g2⟩ := glued_ok k q hq
    have hr := rI_B z
    have hj : (rI z % (q.length : Int)).toNat < k + 3 := by have := Int.emod_lt_of_pos (rI z) (show (0 : Int) < (q.length : Int) by omega); omega
    by_cases h5 : k < 5
    · have ih := mkN_facts m (k + 1) (glueL q ((rI z % (q.length : Int)).toNat + 1)) (rI z) (glued_go k h5 q hq _ hj) (by omega) hr.1 hr.2
      refine ⟨⟨?_, ih.1.2⟩, ih.2⟩
      show (mkN m _ _).1.length = _
      rw [ih.1.1]; omega
    · have hm0 : m = 0 := by omega
      subst hm0
      show (((glueL q _).length = _ ∧ ∀ v ∈ glueL q _, _) ∧ _)
      generalize (rI z % (q.length : Int)).toNat = j at hj
      obtain ⟨f1, f2, f3, f4⟩ := glueL_facts (q := q) (at' := j + 1) (by omega) (by omega) (by omega) g2
      refine ⟨⟨?_, fun v hv => ?_⟩, hr⟩
      · unfold glueL; simp only [List.length_set, f1]; omega
      · unfold glueL at hv
        simp only [] at hv
        generalize q.take (j + 1) ++ 1 :: q.drop (j + 1) = w at *
        have hw : ∀ x ∈ w, 1 ≤ x ∧ x ≤ 12 := fun x hx => by
          obtain ⟨p, hp, e⟩ := List.getElem_of_mem hx
          have := f2 p (by omega)
          rwa [List.getD_eq_getElem?_getD, List.getElem?_eq_getElem hp, Option.getD_some, e] at this
        have b1 := f2 (j + 1 - 1) (by omega)
        rcases List.mem_or_eq_of_mem_set hv with h | h
        · rcases List.mem_or_eq_of_mem_set h with h | h
          · have := hw v h; omega
          · omega
        · have b2 := f2 ((j + 1 + 1) % (q.length + 1)) f3
          simp only [List.getD_eq_getElem?_getD] at h b1 b2
          rw [List.getElem?_set_ne (Ne.symm f4)] at h
          omega
/-- The places that are no gaps. -/
def plG (q : List Int) (acc : List Int) (j : Nat) : List Int := if q.getD j 0 > 0 then acc ++ [(j : Int)] else acc
def pl (q : List Int) : List Int := (List.range q.length).foldl (plG q) []
theorem pl_go (q : List Int) : ∀ (l : List Nat) (acc : List Int), l.foldl (plG q) acc = acc ++ (l.filter (fun j => decide (q.getD j 0 > 0))).map (fun (j : Nat) => (j : Int))
  | [], acc => by simp
  | j :: l, acc => by
    rw [List.foldl_cons, pl_go q l, List.filter_cons]
    unfold plG
    by_cases h : q.getD j 0 > 0
    · simp only [h, decide_true, if_true, List.map_cons, List.append_assoc, List.cons_append, List.nil_append]
    · simp only [h, decide_false, Bool.false_eq_true, if_false]
theorem pl_eq (q : List Int) : pl q = ((List.range q.length).filter (fun j => decide (q.getD j 0 > 0))).map (fun (j : Nat) => (j : Int)) := by
  unfold pl
  rw [pl_go, List.nil_append]
theorem pl_mem {q : List Int} {x : Int} (h : x ∈ pl q) : 0 ≤ x ∧ x < q.length ∧ q.getD x.toNat 0 > 0 := by
  rw [pl_eq] at h
  obtain ⟨j, hj, e⟩ := List.mem_map.1 h
  obtain ⟨h1, h2⟩ := List.mem_filter.1 hj
  have := List.mem_range.1 h1
  subst e
  have h2 := of_decide_eq_true h2
  rw [Int.toNat_natCast]
  exact ⟨by omega, by omega, h2⟩
theorem pl_len (q : List Int) : (pl q).length = q.countP (fun v => decide (v > 0)) := by
  rw [pl_eq, List.length_map, ← List.countP_eq_length_filter]
  have : q = (List.range q.length).map (fun j => q.getD j 0) := by
    refine List.ext_getElem (by simp) fun p hp _ => ?_
    simp [List.getD_eq_getElem?_getD, hp]
  conv => rhs; rw [this]
  rw [List.countP_map]
  rfl
theorem pl_set {q : List Int} {x : Int} (h : x ∈ pl q) : (pl (q.set x.toNat 0)).length + 1 = (pl q).length := by
  obtain ⟨h1, h2, h3⟩ := pl_mem h
  have hlt : x.toNat < q.length := by omega
  rw [pl_len, pl_len, List.countP_set hlt]
  rw [List.getD_eq_getElem?_getD, List.getElem?_eq_getElem hlt, Option.getD_some] at h3
  have hp : 0 < q.countP (fun v => decide (v > 0)) := List.countP_pos_iff.2 ⟨_, List.getElem_mem hlt, by simpa using h3⟩
  have h0 : ¬ ((0 : Int) > 0) := by omega
  simp only [h3, h0, decide_true, if_true, decide_false, Bool.false_eq_true, if_false]
  omega
def gapN : Nat → List Int → Int → List Int
  | 0, q, _ => q
  | m + 1, q, z => gapN m (q.set ((pl q).getD (rI z % ((pl q).length : Int)).toNat 0).toNat 0) (rI z)
theorem gapN_len : ∀ (m : Nat) (q : List Int) (z : Int), (gapN m q z).length = q.length
  | 0, q, z => rfl
  | m + 1, q, z => by unfold gapN; rw [gapN_len]; simp
def mkPz (n gaps seed : Int) : Bool × List Int :=
  if inB 3 9 n && inB 0 n gaps && inB 0 9999 seed then
    let r := mkN (n - 3).toNat [1, 1, 1] seed
    (true, gapN gaps.toNat r.1 r.2)
  else (false, [])
theorem pl_pick {q : List Int} {z : Int} (h : 0 < (pl q).length) : 0 ≤ rI z % ((pl q).length : Int) ∧ rI z % ((pl q).length : Int) < ((pl q).length : Int) ∧ (pl q)[(rI z % ((pl q).length : Int)).toNat]? = some ((pl q).getD (rI z % ((pl q).length : Int)).toNat 0) ∧ (pl q).getD (rI z % ((pl q).length : Int)).toNat 0 ∈ pl q := by
  have h1 := Int.emod_nonneg (rI z) (show ((pl q).length : Int) ≠ 0 by omega)
  have h2 := Int.emod_lt_of_pos (rI z) (show (0 : Int) < ((pl q).length : Int) by omega)
  have h3 : (rI z % ((pl q).length : Int)).toNat < (pl q).length := by omega
  exact ⟨h1, h2, set_getD h3, List.mem_of_getElem? (set_getD h3)⟩
theorem mk_start (n : Int) (hn : inB 3 9 n = true) (s : Int) (hs : inB 0 9999 s = true) : ∃ m : Nat, (n - 3).toNat = m ∧ m ≤ 6 ∧ ((0 + 3 + m : Nat) : Int) = n ∧ 0 ≤ s ∧ s < 10007 ∧ [1, 1, 1] ∈ glued 0 := by
  rw [inB_iff] at hn hs
  exact ⟨(n - 3).toNat, rfl, by omega, by omega, by omega, by omega, by simp [glued, gluedL0]⟩
theorem pl_full {q : List Int} (h : ∀ v ∈ q, 1 ≤ v ∧ v ≤ 100) : (pl q).length = q.length := by
  rw [pl_len, List.countP_eq_length]
  intro v hv
  have := h v hv
  simp; omega
theorem mkPz_len (n g s : Int) : (mkPz n g s).2.length ≤ 9 := by
  unfold mkPz
  split
  · rename_i h
    rw [Bool.and_eq_true, Bool.and_eq_true] at h
    obtain ⟨⟨hn, hg⟩, hs⟩ := h
    obtain ⟨m, m1, m2, m3, s1, s2, hq⟩ := mk_start n hn s hs
    obtain ⟨⟨f1, f2⟩, f3, f4⟩ := mkN_facts m 0 [1, 1, 1] s hq (by omega) s1 s2
    simp only [gapN_len, m1, f1]
    omega
  · simp


def s_GlueEar_sh : FSh := ⟨[(.one (.sl (.int .i64) false false)), (.one (.si .i64))], []⟩

def s_GlueEar_fo : List FO := [⟨[(.one (.rw 0 0)), (.one .sb)], [(.row 0 (.int .i64))]⟩]
noncomputable def s_GlueEar_t : (List (Int) × Int) → T ((Unit × Bool) × List (Int)) := fun (quiddity, at') =>
  (.sub (s_IsQuiddity quiddity) fun z0 =>
  (.test (! z0)
  (.test true
   (.ret (((), false), ([] : List (Int))))
   .fail)
  (.test (((List.length quiddity) : Int) == 12)
   (.test true
    (.ret (((), false), ([] : List (Int))))
    .fail)
   (.sub (s_l1In (at', ((1 : Int), ((List.length quiddity) : Int)))) fun z1 =>
    (.test (! z1)
    (.test true
     (.ret (((), false), ([] : List (Int))))
     .fail)
    (.test (decide (0 ≤ at'))
     (.test (decide ((0 ≤ (Int.toNat at')) ∧ ((Int.toNat at') ≤ (List.length quiddity))))
      (.sub (s_l1Own (win quiddity 0 ((Int.toNat at') - 0))) fun z2 =>
       (.test true
       (.test (decide ((0 + (List.length z2.2)) ≤ (List.length z2.2)))
        (.test (decide ((2 * (((List.length z2.2) + 1) * 9)) ≤ 140737488355328))
         (.test (decide (0 ≤ at'))
          (.test (decide (((Int.toNat at') ≤ (List.length quiddity)) ∧ ((List.length quiddity) ≤ (List.length quiddity))))
           (.test (decide ((0 + ((List.length z2.2) + 1)) ≤ (List.length ((win z2.2 0 (List.length z2.2)) ++ (win (List.set (List.replicate 1 (0 : Int)) 0 (1 : Int)) 0 1)))))
            (.test (decide ((2 * ((((List.length z2.2) + 1) + (List.length (win quiddity (Int.toNat at') ((List.length quiddity) - (Int.toNat at'))))) * 9)) ≤ 140737488355328))
             (.test (decide ((0 ≤ (w64 (at' - 1))) ∧ ((w64 (at' - 1)) < ((((List.length z2.2) + 1) + (List.length (win quiddity (Int.toNat at') ((List.length quiddity) - (Int.toNat at'))))) : Int))))
              (.sub (((win ((win z2.2 0 (List.length z2.2)) ++ (win (List.set (List.replicate 1 (0 : Int)) 0 (1 : Int)) 0 1)) 0 ((List.length z2.2) + 1)) ++ (win quiddity (Int.toNat at') ((List.length quiddity) - (Int.toNat at'))))[(0 + (Int.toNat (w64 (at' - 1))))]?) fun z3 =>
               (.test (decide ((0 ≤ (w64 (at' - 1))) ∧ ((w64 (at' - 1)) < ((((List.length z2.2) + 1) + (List.length (win quiddity (Int.toNat at') ((List.length quiddity) - (Int.toNat at'))))) : Int))))
               (.sub (((win ((win z2.2 0 (List.length z2.2)) ++ (win (List.set (List.replicate 1 (0 : Int)) 0 (1 : Int)) 0 1)) 0 ((List.length z2.2) + 1)) ++ (win quiddity (Int.toNat at') ((List.length quiddity) - (Int.toNat at'))))[(0 + (Int.toNat (w64 (at' - 1))))]?) fun z4 =>
                (.test (decide ((w64 (((List.length quiddity) : Int) + 1)) ≠ 0))
                (.test (decide ((0 ≤ (Int.tmod (w64 (at' + 1)) (w64 (((List.length quiddity) : Int) + 1)))) ∧ ((Int.tmod (w64 (at' + 1)) (w64 (((List.length quiddity) : Int) + 1))) < ((((List.length z2.2) + 1) + (List.length (win quiddity (Int.toNat at') ((List.length quiddity) - (Int.toNat at'))))) : Int))))
                 (.sub ((List.set ((win ((win z2.2 0 (List.length z2.2)) ++ (win (List.set (List.replicate 1 (0 : Int)) 0 (1 : Int)) 0 1)) 0 ((List.length z2.2) + 1)) ++ (win quiddity (Int.toNat at') ((List.length quiddity) - (Int.toNat at')))) (0 + (Int.toNat (w64 (at' - 1)))) (w64 (z3 + 1)))[(0 + (Int.toNat (Int.tmod (w64 (at' + 1)) (w64 (((List.length quiddity) : Int) + 1)))))]?) fun z5 =>
                  (.test (decide ((0 ≤ (Int.tmod (w64 (at' + 1)) (w64 (((List.length quiddity) : Int) + 1)))) ∧ ((Int.tmod (w64 (at' + 1)) (w64 (((List.length quiddity) : Int) + 1))) < ((((List.length z2.2) + 1) + (List.length (win quiddity (Int.toNat at') ((List.length quiddity) - (Int.toNat at'))))) : Int))))
                  (.sub ((List.set ((win ((win z2.2 0 (List.length z2.2)) ++ (win (List.set (List.replicate 1 (0 : Int)) 0 (1 : Int)) 0 1)) 0 ((List.length z2.2) + 1)) ++ (win quiddity (Int.toNat at') ((List.length quiddity) - (Int.toNat at')))) (0 + (Int.toNat (w64 (at' - 1)))) (w64 (z3 + 1)))[(0 + (Int.toNat (Int.tmod (w64 (at' + 1)) (w64 (((List.length quiddity) : Int) + 1)))))]?) fun z6 =>
                   (.test (decide ((0 = 0) ∧ ((((List.length z2.2) + 1) + (List.length (win quiddity (Int.toNat at') ((List.length quiddity) - (Int.toNat at'))))) = (List.length (List.set (List.set ((win ((win z2.2 0 (List.length z2.2)) ++ (win (List.set (List.replicate 1 (0 : Int)) 0 (1 : Int)) 0 1)) 0 ((List.length z2.2) + 1)) ++ (win quiddity (Int.toNat at') ((List.length quiddity) - (Int.toNat at')))) (0 + (Int.toNat (w64 (at' - 1)))) (w64 (z3 + 1))) (0 + (Int.toNat (Int.tmod (w64 (at' + 1)) (w64 (((List.length quiddity) : Int) + 1))))) (w64 (z5 + 1)))))))
                   (.ret (((), true), (List.set (List.set ((win ((win z2.2 0 (List.length z2.2)) ++ (win (List.set (List.replicate 1 (0 : Int)) 0 (1 : Int)) 0 1)) 0 ((List.length z2.2) + 1)) ++ (win quiddity (Int.toNat at') ((List.length quiddity) - (Int.toNat at')))) (0 + (Int.toNat (w64 (at' - 1)))) (w64 (z3 + 1))) (0 + (Int.toNat (Int.tmod (w64 (at' + 1)) (w64 (((List.length quiddity) : Int) + 1))))) (w64 (z5 + 1)))))
                   .fail))
                  .fail))
                 .fail)
                .fail))
               .fail))
              .fail)
             .fail)
            .fail)
           .fail)
          .fail)
         .fail)
        .fail)
       .fail))
      .fail)
     .fail))))))
noncomputable def s_GlueEar (v : (List (Int) × Int)) : Option ((Unit × Bool) × List (Int)) := (s_GlueEar_t v).run
noncomputable def s_GlueEar_E : TEnv := (((E0.add1 n_s_IsQuiddity s_IsQuiddity_sh s_IsQuiddity_fo s_IsQuiddity).add1 n_s_l1In s_l1In_sh s_l1In_fo s_l1In).add1 n_s_l1Own s_l1Own_sh s_l1Own_fo s_l1Own)
theorem s_GlueEar_Eok : (s_GlueEar_E).OK := (((E0ok.add1 s_IsQuiddity_ok).add1 s_l1In_ok).add1 s_l1Own_ok)
noncomputable def s_GlueEar_told : Nat → Option SealT := fun id => none
theorem s_GlueEar_ok : FOK Try.prog n_s_GlueEar s_GlueEar_sh s_GlueEar_fo s_GlueEar :=
  fn_ok (E := s_GlueEar_E) (s_GlueEar_Eok) (told := s_GlueEar_told) (fl := []) (c := bodyOf fn_s_GlueEar) (s := s_GlueEar_sh) (l := s_GlueEar_fo) (tree := s_GlueEar_t) fnat_s_GlueEar (by kernel_rfl) (by kernel_rfl) (by kernel_rfl) (loopsOK_of (ls := []) (by kernel_rfl) trivial) (fun v => by kernel_rfl)

theorem s_GlueEar_eq (q : List Int) (at' : Nat) (hq : (trOf q).isSome = true) (hl : 3 ≤ q.length) (hl2 : q.length ≤ 11) (hv : ∀ v ∈ q, 1 ≤ v ∧ v ≤ 12) (h1 : 1 ≤ at') (h2 : at' ≤ q.length) :
    s_GlueEar (q, (at' : Int)) = some (((), true), glueL q at') := by
  obtain ⟨f1, f2, f3, f4⟩ := glueL_facts h1 h2 hl hv
  have hb : inB 1 (q.length : Int) (at' : Int) = true := inB_iff.2 (by omega)
  have h12 : ((q.length : Int) == 12) = false := by simp; omega
  have lt : (q.take at').length = at' := by simp; omega
  have ld : (q.drop at').length = q.length - at' := by simp
  have hown := s_l1Own_eq (q.take at') (by omega)
  have e1 : win q 0 (at' - 0) = q.take at' := win_take _ _
  have e2 : win q at' (q.length - at') = q.drop at' := by unfold win; rw [List.take_of_length_le (by omega)]
  have e3 : win (q.take at') 0 at' = q.take at' := by rw [win_take, List.take_take, Nat.min_self]
  have l3 : (q.take at' ++ [1]).length = at' + 1 := by simp; omega
  have e4 : win (q.take at' ++ [1]) 0 (at' + 1) = q.take at' ++ [1] := by rw [← l3]; exact win_all _
  have e5 : q.take at' ++ [1] ++ q.drop at' = q.take at' ++ 1 :: q.drop at' := by simp
  have w1 : w64 ((at' : Int) - 1) = ((at' - 1 : Nat) : Int) := by rw [w64_id (by omega) (by omega)]; omega
  have w2 : w64 ((at' : Int) + 1) = ((at' + 1 : Nat) : Int) := by rw [w64_id (by omega) (by omega)]; omega
  have w3 : w64 ((q.length : Int) + 1) = ((q.length + 1 : Nat) : Int) := by rw [w64_id (by omega) (by omega)]; omega
  have w4 : Int.tmod ((at' + 1 : Nat) : Int) ((q.length + 1 : Nat) : Int) = (((at' + 1) % (q.length + 1) : Nat) : Int) := by
    rw [Int.tmod_eq_emod_of_nonneg (by omega)]; exact (Int.natCast_emod _ _).symm
  generalize hm : q.take at' ++ 1 :: q.drop at' = m at *
  generalize hc2 : (at' + 1) % (q.length + 1) = c at *
  have b1 := f2 (at' - 1) (by omega)
  have b2 := f2 c f3
  have g1 := set_getD (l := m) (p := at' - 1) (by omega)
  have e6 : (m.set (at' - 1) (m.getD (at' - 1) 0 + 1)).getD c 0 = m.getD c 0 := by
    simp only [List.getD_eq_getElem?_getD]
    rw [List.getElem?_set_ne (Ne.symm f4)]
  have g2 := set_getD (l := m.set (at' - 1) (m.getD (at' - 1) 0 + 1)) (p := c) (by simp; omega)
  have w5 : w64 (m.getD (at' - 1) 0 + 1) = m.getD (at' - 1) 0 + 1 := w64_id (by omega) (by omega)
  have w6 : w64 ((m.set (at' - 1) (m.getD (at' - 1) 0 + 1)).getD c 0 + 1) = (m.set (at' - 1) (m.getD (at' - 1) 0 + 1)).getD c 0 + 1 := by rw [e6]; exact w64_id (by omega) (by omega)
  have q1 : at' + 1 + (q.length - at') = q.length + 1 := by omega
  have c1 : (0 : Int) ≤ ((at' - 1 : Nat) : Int) ∧ ((at' - 1 : Nat) : Int) < ((q.length + 1 : Nat) : Int) := by omega
  have c2 : (0 : Int) ≤ (c : Int) ∧ (c : Int) < ((q.length + 1 : Nat) : Int) := by omega
  have c3 : ((q.length + 1 : Nat) : Int) ≠ 0 := by omega
  have c4 : (0 : Int) ≤ (at' : Int) := by omega
  have c5 : 0 ≤ at' ∧ at' ≤ q.length := by omega
  have c6 : at' ≤ q.length ∧ q.length ≤ q.length := by omega
  have c7 : 2 * ((at' + 1) * 9) ≤ 140737488355328 := by omega
  have c8 : 2 * ((q.length + 1) * 9) ≤ 140737488355328 := by omega
  have c9 : 0 + (at' + 1) ≤ at' + 1 := by omega
  have hg : glueL q at' = (m.set (at' - 1) (m.getD (at' - 1) 0 + 1)).set c ((m.set (at' - 1) (m.getD (at' - 1) 0 + 1)).getD c 0 + 1) := by
    unfold glueL
    rw [hm, hc2]
  have x1 : ((at' : Int) + 1 + ((q.length - at' : Nat) : Int)) = ((q.length + 1 : Nat) : Int) := by omega
  simp only [s_GlueEar, s_GlueEar_t, T.run, s_IsQuiddity_eq q (by omega), hq, Option.bind_some, Bool.not_true, Bool.false_eq_true, if_false, s_l1In_eq, hb, h12, c4, c5, c6, decide_true, if_true, and_self, Int.toNat_natCast, e1, e2, hown, lt, ld, e3, win_one, l3, e4, e5, q1, c7, c8, c9, w1, w2, w3, w4, x1, c1, c2, c3, ne_eq, not_false_eq_true, Nat.zero_add, Nat.le_refl, g1, w5, g2, w6, List.length_set, f1, hg]


def s_pzPut_sh : FSh := ⟨[(.ag [(.sl (.int .i64) false false)]), (.one (.si .i64)), (.one (.si .i64))], []⟩

def s_pzPut_fo : List FO := [⟨[(.ag [(.rw 0 0)])], [(.row 0 (.int .i64))]⟩]
noncomputable def s_pzPut_t : (List (Int) × Int × Int) → T (Unit × List (Int)) := fun (p_0, at', number) =>
  (.sub (s_l1Own p_0) fun z0 =>
  (.test (decide ((0 ≤ at') ∧ (at' < ((List.length z0.2) : Int))))
  (.sub (z0.2[(0 + (Int.toNat at'))]?) fun z1 =>
   (.test (decide ((0 = 0) ∧ ((List.length z0.2) = (List.length (List.set z0.2 (0 + (Int.toNat at')) number)))))
   (.ret ((), (List.set z0.2 (0 + (Int.toNat at')) number)))
   .fail))
  .fail))
noncomputable def s_pzPut (v : (List (Int) × Int × Int)) : Option (Unit × List (Int)) := (s_pzPut_t v).run
noncomputable def s_pzPut_E : TEnv := (E0.add1 n_s_l1Own s_l1Own_sh s_l1Own_fo s_l1Own)
theorem s_pzPut_Eok : (s_pzPut_E).OK := (E0ok.add1 s_l1Own_ok)
noncomputable def s_pzPut_told : Nat → Option SealT := fun id => none
theorem s_pzPut_ok : FOK Try.prog n_s_pzPut s_pzPut_sh s_pzPut_fo s_pzPut :=
  fn_ok (E := s_pzPut_E) (s_pzPut_Eok) (told := s_pzPut_told) (fl := []) (c := bodyOf fn_s_pzPut) (s := s_pzPut_sh) (l := s_pzPut_fo) (tree := s_pzPut_t) fnat_s_pzPut (by kernel_rfl) (by kernel_rfl) (by kernel_rfl) (loopsOK_of (ls := []) (by kernel_rfl) trivial) (fun v => by kernel_rfl)

theorem s_pzPut_eq (l : List Int) (at' n : Int) (hl : l.length < 1000000000000) (h1 : 0 ≤ at') (h2 : at' < l.length) : s_pzPut (l, at', n) = some ((), l.set at'.toNat n) := by
  have h3 : at'.toNat < l.length := by omega
  simp [s_pzPut, s_pzPut_t, T.run, s_l1Own_eq l hl, h1, h2, h3]


def s_MakePuzzle_sh : FSh := ⟨[(.one (.si .i64)), (.one (.si .i64)), (.one (.si .i64))], []⟩

def s_MakePuzzle_L5_sh : LSh := ⟨(fun ex => match ex with | .norm => [(0, none), (1, none), (6, none), (8, none), (9, none)] | .exit i => if i = 0 then [(1, none), (6, none), (8, none), (9, none)] else [] | .ret => [(6, none), (7, none)]), [(0, (.one (.si .i64))), (1, (.one (.si .i64))), (6, (.one (.pf 0 0 0))), (8, (.one (.si .i64))), (9, (.one (.rw 1 0)))], [(.rcd 0 [(.nl true true)]), (.row 0 (.int .i64))], [⟨(.exit 0), [(1, (.one (.si .i64))), (6, (.one (.pf 0 0 0))), (8, (.one (.si .i64))), (9, (.one (.rw 1 0)))], [(.rcd 0 [(.nl true true)]), (.row 0 (.int .i64))]⟩], [], []⟩
noncomputable def s_MakePuzzle_L5_step : ((Int × Int × Unit × Int × Unit) × (Unit × List (Int))) → T (((Int × Int × Unit × Int × Unit) × (Unit × List (Int))) ⊕ ((Int × Unit × Int × Unit) × (Unit × List (Int)))) := fun ((n, gaps, (), z, ()), ((), q)) =>
  (.test (decide (((List.length q) : Int) < n))
  (.test true
   (.test (decide (((List.length q) : Int) ≠ 0))
    (.test (decide ((0 + (List.length q)) ≤ (List.length q)))
     (.sub (s_GlueEar ((win q 0 (List.length q)), (w64 ((Int.tmod (Int.tmod (w64 ((w64 (z * 187)) + 3301)) (10007 : Int)) ((List.length q) : Int)) + 1)))) fun z0 =>
      (.test (decide ((0 = 0) ∧ ((List.length z0.2) = (List.length z0.2))))
      (.ret (Sum.inl ((n, (gaps, ((), ((Int.tmod (w64 ((w64 (z * 187)) + 3301)) (10007 : Int)), ())))), ((), z0.2))))
      .fail))
     .fail)
    .fail)
   .fail)
  (.test (decide ((0 = 0) ∧ ((List.length q) = (List.length q))))
   (.ret (Sum.inr ((gaps, ((), (z, ()))), ((), q))))
   .fail))
noncomputable def s_MakePuzzle_L5 (v : ((Int × Int × Unit × Int × Unit) × (Unit × List (Int)))) : Option ((Int × Unit × Int × Unit) × (Unit × List (Int))) := loopO (fun v => (s_MakePuzzle_L5_step v).run) v

def s_MakePuzzle_L13_sh : LSh := ⟨(fun ex => match ex with | .norm => [(1, none), (6, none), (8, none), (10, none), (11, none), (57, none), (58, none), (59, none)] | .exit i => if i = 4 then [(1, none), (6, none), (8, none), (10, none), (11, none)] else if i = 3 then [(1, none), (6, none), (8, none), (10, none)] else if i = 2 then [(6, none), (10, none)] else [] | .ret => [(6, none), (7, none)]), [(1, (.one (.si .i64))), (6, (.one (.pf 0 0 0))), (8, (.one (.si .i64))), (10, (.one (.pf 1 0 0))), (11, (.one (.rw 3 0))), (57, (.one (.rw 2 0))), (58, (.one (.si .i64))), (59, (.one (.si .i64)))], [(.rcd 0 [(.nl true true)]), (.rcd 0 [(.rw 2 0)]), (.row 0 (.int .i64)), (.row 0 (.int .i64))], [⟨(.exit 4), [(1, (.one (.si .i64))), (6, (.one (.pf 0 0 0))), (8, (.one (.si .i64))), (10, (.one (.pf 1 0 0))), (11, (.one (.rw 3 0)))], [(.rcd 0 [(.nl true true)]), (.rcd 0 [(.rw 2 0)]), (.row 0 (.int .i64)), (.row 0 (.int .i64))]⟩], [], []⟩
noncomputable def s_MakePuzzle_L13_step : ((Int × Unit × Int × Unit × Unit × Unit × Int × Int) × (Unit × Unit × List (Int) × List (Int))) → T (((Int × Unit × Int × Unit × Unit × Unit × Int × Int) × (Unit × Unit × List (Int) × List (Int))) ⊕ ((Int × Unit × Int × Unit × Unit) × (Unit × Unit × List (Int) × List (Int)))) := fun ((gaps, (), z, (), (), (), t58, t59), ((), (), t57, full)) =>
  (.test (decide (t59 < t58))
  (.test (decide ((0 ≤ t59) ∧ (t59 < ((List.length t57) : Int))))
   (.sub (t57[(0 + (Int.toNat t59))]?) fun z0 =>
    (.test (decide (z0 > 0))
    (.test (decide (1 ≤ (List.length (List.set (List.replicate 1 (0 : Int)) 0 t59))))
     (.test (decide ((0 + (List.length full)) ≤ (List.length full)))
      (.test (decide ((2 * (((List.length full) + (List.length (win (List.set (List.replicate 1 (0 : Int)) 0 t59) 0 1))) * 9)) ≤ 140737488355328))
       (.test (decide ((0 = 0) ∧ (((List.length full) + (List.length (win (List.set (List.replicate 1 (0 : Int)) 0 t59) 0 1))) = (List.length ((win full 0 (List.length full)) ++ (win (List.set (List.replicate 1 (0 : Int)) 0 t59) 0 1))))))
        (.test (decide ((0 = 0) ∧ ((List.length t57) = (List.length t57))))
         (.test (decide ((0 = 0) ∧ ((List.length t57) = (List.length t57))))
          (.ret (Sum.inl ((gaps, ((), (z, ((), ((), ((), (t58, (w64 (t59 + 1))))))))), ((), ((), (t57, ((win full 0 (List.length full)) ++ (win (List.set (List.replicate 1 (0 : Int)) 0 t59) 0 1))))))))
          .fail)
         .fail)
        .fail)
       .fail)
      .fail)
     .fail)
    (.test (decide ((0 = 0) ∧ ((List.length full) = (List.length full))))
     (.test (decide ((0 = 0) ∧ ((List.length t57) = (List.length t57))))
      (.test (decide ((0 = 0) ∧ ((List.length t57) = (List.length t57))))
       (.ret (Sum.inl ((gaps, ((), (z, ((), ((), ((), (t58, (w64 (t59 + 1))))))))), ((), ((), (t57, full))))))
       .fail)
      .fail)
     .fail)))
   .fail)
  (.test (decide ((0 = 0) ∧ ((List.length full) = (List.length full))))
   (.test (decide ((0 = 0) ∧ ((List.length t57) = (List.length t57))))
    (.ret (Sum.inr ((gaps, ((), (z, ((), ())))), ((), ((), (t57, full))))))
    .fail)
   .fail))
noncomputable def s_MakePuzzle_L13 (v : ((Int × Unit × Int × Unit × Unit × Unit × Int × Int) × (Unit × Unit × List (Int) × List (Int)))) : Option ((Int × Unit × Int × Unit × Unit) × (Unit × Unit × List (Int) × List (Int))) := loopO (fun v => (s_MakePuzzle_L13_step v).run) v

def s_MakePuzzle_L9_sh : LSh := ⟨(fun ex => match ex with | .norm => [(1, none), (6, none), (8, none), (10, none)] | .exit i => if i = 2 then [(6, none), (10, none)] else [] | .ret => [(6, none), (7, none)]), [(1, (.one (.si .i64))), (6, (.one (.pf 0 0 0))), (8, (.one (.si .i64))), (10, (.one (.pf 1 0 0)))], [(.rcd 0 [(.nl true true)]), (.rcd 0 [(.rw 2 0)]), (.row 0 (.int .i64))], [⟨(.exit 2), [(6, (.one (.pf 0 0 0))), (10, (.one (.pf 1 0 0)))], [(.rcd 0 [(.nl true true)]), (.rcd 0 [(.rw 2 0)]), (.row 0 (.int .i64))]⟩], [], []⟩
noncomputable def s_MakePuzzle_L9_step : ((Int × Unit × Int × Unit) × (Unit × Unit × List (Int))) → T (((Int × Unit × Int × Unit) × (Unit × Unit × List (Int))) ⊕ ((Unit × Unit) × (Unit × Unit × List (Int)))) := fun ((gaps, (), z, ()), ((), (), p_r)) =>
  (.test (decide (gaps > 0))
  (.test (decide ((0 = 0) ∧ (0 = (List.length ([] : List (Int))))))
   (.test (decide ((0 = 0) ∧ ((List.length p_r) = (List.length p_r))))
    (.test (decide ((0 = 0) ∧ ((List.length p_r) = (List.length p_r))))
     (.sub (s_MakePuzzle_L13 ((gaps, ((), (z, ((), ((), ((), (((List.length p_r) : Int), (0 : Int)))))))), ((), ((), (p_r, ([] : List (Int))))))) fun z0 =>
      (.test true
      (.test (decide (((List.length z0.2.2.2.2) : Int) ≠ 0))
       (.test (decide ((0 ≤ (Int.tmod (Int.tmod (w64 ((w64 (z0.1.2.2.1 * 187)) + 3301)) (10007 : Int)) ((List.length z0.2.2.2.2) : Int))) ∧ ((Int.tmod (Int.tmod (w64 ((w64 (z0.1.2.2.1 * 187)) + 3301)) (10007 : Int)) ((List.length z0.2.2.2.2) : Int)) < ((List.length z0.2.2.2.2) : Int))))
        (.sub (z0.2.2.2.2[(0 + (Int.toNat (Int.tmod (Int.tmod (w64 ((w64 (z0.1.2.2.1 * 187)) + 3301)) (10007 : Int)) ((List.length z0.2.2.2.2) : Int))))]?) fun z1 =>
         (.test (decide ((0 + (List.length z0.2.2.2.1)) ≤ (List.length z0.2.2.2.1)))
         (.sub (s_pzPut ((win z0.2.2.2.1 0 (List.length z0.2.2.2.1)), (z1, (0 : Int)))) fun z2 =>
          (.test (decide ((0 = 0) ∧ ((List.length z2.2) = (List.length z2.2))))
          (.ret (Sum.inl (((w64 (z0.1.1 - 1)), ((), ((Int.tmod (w64 ((w64 (z0.1.2.2.1 * 187)) + 3301)) (10007 : Int)), ()))), ((), ((), z2.2)))))
          .fail))
         .fail))
        .fail)
       .fail)
      .fail))
     .fail)
    .fail)
   .fail)
  (.test (decide ((0 = 0) ∧ ((List.length p_r) = (List.length p_r))))
   (.ret (Sum.inr (((), ()), ((), ((), p_r)))))
   .fail))
noncomputable def s_MakePuzzle_L9 (v : ((Int × Unit × Int × Unit) × (Unit × Unit × List (Int)))) : Option ((Unit × Unit) × (Unit × Unit × List (Int))) := loopO (fun v => (s_MakePuzzle_L9_step v).run) v

def s_MakePuzzle_w_fo : List FO := [⟨[(.ag [(.nl true true)]), (.one .sb)], []⟩, ⟨[(.ag [(.rw 0 0)]), (.one .sb)], [(.row 0 (.int .i64))]⟩]
noncomputable def s_MakePuzzle_t : (Int × Int × Int) → T ((Unit × Bool) ⊕ ((Unit × Bool) × List (Int))) := fun (n, gaps, seed) =>
  (.sub (s_l1In (n, ((3 : Int), (9 : Int)))) fun z0 =>
  (.test (! z0)
  (.ret (Sum.inl ((), false)))
  (.sub (s_l1In (gaps, ((0 : Int), n))) fun z1 =>
   (.test (! z1)
   (.ret (Sum.inl ((), false)))
   (.sub (s_l1In (seed, ((0 : Int), (9999 : Int)))) fun z2 =>
    (.test (! z2)
    (.ret (Sum.inl ((), false)))
    (.test true
     (.sub (s_MakePuzzle_L5 ((n, (gaps, ((), (seed, ())))), ((), (List.set (List.set (List.set (List.replicate 3 (0 : Int)) 0 (1 : Int)) 1 (1 : Int)) 2 (1 : Int))))) fun z3 =>
      (.test (decide ((0 + (List.length z3.2.2)) ≤ (List.length z3.2.2)))
      (.sub (s_l1Own (win z3.2.2 0 (List.length z3.2.2))) fun z4 =>
       (.test (decide ((0 = 0) ∧ ((List.length z4.2) = (List.length z4.2))))
       (.sub (s_MakePuzzle_L9 ((z3.1.1, ((), (z3.1.2.2.1, ()))), ((), ((), z4.2)))) fun z5 =>
        (.test (decide ((0 = 0) ∧ ((List.length z5.2.2.2) = (List.length z5.2.2.2))))
        (.ret (Sum.inr (((), true), z5.2.2.2)))
        .fail))
       .fail))
      .fail))
     .fail)))))))
noncomputable def s_MakePuzzle_w (v : (Int × Int × Int)) : Option ((Unit × Bool) ⊕ ((Unit × Bool) × List (Int))) := (s_MakePuzzle_t v).run
noncomputable def s_MakePuzzle_E : TEnv := ((((E0.add1 n_s_l1In s_l1In_sh s_l1In_fo s_l1In).add1 n_s_GlueEar s_GlueEar_sh s_GlueEar_fo s_GlueEar).add1 n_s_l1Own s_l1Own_sh s_l1Own_fo s_l1Own).add1 n_s_pzPut s_pzPut_sh s_pzPut_fo s_pzPut)
theorem s_MakePuzzle_Eok : (s_MakePuzzle_E).OK := ((((E0ok.add1 s_l1In_ok).add1 s_GlueEar_ok).add1 s_l1Own_ok).add1 s_pzPut_ok)
noncomputable def s_MakePuzzle_told : Nat → Option SealT := fun id => if id = 5 then some (LSh.told s_MakePuzzle_L5_sh 0 (s_MakePuzzle_L5_step)) else if id = 13 then some (LSh.told s_MakePuzzle_L13_sh 0 (s_MakePuzzle_L13_step)) else if id = 9 then some (LSh.told s_MakePuzzle_L9_sh 0 (s_MakePuzzle_L9_step)) else none
theorem s_MakePuzzle_L5_ok : ToldOK Try.prog 0 (loopAt (bodyOf fn_s_MakePuzzle) [0]) (LSh.told s_MakePuzzle_L5_sh 0 (s_MakePuzzle_L5_step)) :=
  loop_ok (E := s_MakePuzzle_E) (s_MakePuzzle_Eok) (told := s_MakePuzzle_told) (l := s_MakePuzzle_L5_sh) (step := s_MakePuzzle_L5_step) (loopsOK_of (ls := []) (by kernel_rfl) trivial) (by kernel_rfl) (fun v => by kernel_rfl)
theorem s_MakePuzzle_L13_ok : ToldOK Try.prog 0 (loopAt (bodyOf fn_s_MakePuzzle) [1, 0]) (LSh.told s_MakePuzzle_L13_sh 0 (s_MakePuzzle_L13_step)) :=
  loop_ok (E := s_MakePuzzle_E) (s_MakePuzzle_Eok) (told := s_MakePuzzle_told) (l := s_MakePuzzle_L13_sh) (step := s_MakePuzzle_L13_step) (loopsOK_of (ls := []) (by kernel_rfl) trivial) (by kernel_rfl) (fun v => by kernel_rfl)
theorem s_MakePuzzle_L9_ok : ToldOK Try.prog 0 (loopAt (bodyOf fn_s_MakePuzzle) [1]) (LSh.told s_MakePuzzle_L9_sh 0 (s_MakePuzzle_L9_step)) :=
  loop_ok (E := s_MakePuzzle_E) (s_MakePuzzle_Eok) (told := s_MakePuzzle_told) (l := s_MakePuzzle_L9_sh) (step := s_MakePuzzle_L9_step) (loopsOK_of (ls := [loopAt (bodyOf fn_s_MakePuzzle) [1, 0]]) (by kernel_rfl) ⟨.inr ⟨_, by kernel_rfl, s_MakePuzzle_L13_ok⟩, trivial⟩) (by kernel_rfl) (fun v => by kernel_rfl)
theorem s_MakePuzzle_w_ok : FOK Try.prog n_s_MakePuzzle s_MakePuzzle_sh s_MakePuzzle_w_fo s_MakePuzzle_w :=
  fn_ok (E := s_MakePuzzle_E) (s_MakePuzzle_Eok) (told := s_MakePuzzle_told) (fl := []) (c := bodyOf fn_s_MakePuzzle) (s := s_MakePuzzle_sh) (l := s_MakePuzzle_w_fo) (tree := s_MakePuzzle_t) fnat_s_MakePuzzle (by kernel_rfl) (by kernel_rfl) (by kernel_rfl) (loopsOK_of (ls := [loopAt (bodyOf fn_s_MakePuzzle) [0], loopAt (bodyOf fn_s_MakePuzzle) [1]]) (by kernel_rfl) ⟨.inr ⟨_, by kernel_rfl, s_MakePuzzle_L5_ok⟩, ⟨.inr ⟨_, by kernel_rfl, s_MakePuzzle_L9_ok⟩, trivial⟩⟩) (fun v => by kernel_rfl)
def s_MakePuzzle_fo : List FO := [⟨[(.ag [(.rw 0 0)]), (.one .sb)], [(.row 0 (.int .i64))]⟩]
def s_MakePuzzle_m : ((Unit × Bool) ⊕ ((Unit × Bool) × List (Int))) → ((Unit × Bool) × List (Int)) := fun o => match o with | (.inl a) => (a, []) | (.inr x) => x
noncomputable def s_MakePuzzle (v : (Int × Int × Int)) : Option ((Unit × Bool) × List (Int)) := (s_MakePuzzle_w v).map s_MakePuzzle_m
theorem s_MakePuzzle_ok : FOK Try.prog n_s_MakePuzzle s_MakePuzzle_sh s_MakePuzzle_fo s_MakePuzzle :=
  FOK.own (l' := s_MakePuzzle_fo) s_MakePuzzle_w_ok s_MakePuzzle_m [(.int .i64)] (by decide) (fun o => match o with | (.inl a) => .inr (by kernel_rfl) | (.inr x) => .inl (by kernel_rfl))

theorem s_MakePuzzle_glue (n gaps : Int) : ∀ (m k : Nat) (q : List Int) (z : Int), q ∈ glued k → k + m ≤ 6 → (k + 3 + m : Nat) = n → 0 ≤ z → z < 10007 →
    s_MakePuzzle_L5 ((n, (gaps, ((), (z, ())))), ((), q)) = some ((gaps, ((), ((mkN m q z).2, ()))), ((), (mkN m q z).1))
  | 0, k, q, z, hq, hk, hn, h1, h2 => by
    obtain ⟨_, g1, _⟩ := glued_ok k q hq
    simp only [s_MakePuzzle_L5, mkN]
    refine loopO_done ?_
    have : ¬ ((q.length : Int) < n) := by omega
    simp [s_MakePuzzle_L5_step, T.run, this]
  | m + 1, k, q, z, hq, hk, hn, h1, h2 => by
    obtain ⟨g0, g1, g2⟩ := glued_ok k q hq
    have hr := rI_B z
    have hj : (rI z % (q.length : Int)).toNat < k + 3 := by have := Int.emod_lt_of_pos (rI z) (show (0 : Int) < (q.length : Int) by omega); omega
    have hnn : 0 ≤ rI z % (q.length : Int) := Int.emod_nonneg _ (by omega)
    have st : (s_MakePuzzle_L5_step ((n, (gaps, ((), (z, ())))), ((), q))).run = some (.inl ((n, (gaps, ((), (rI z, ())))), ((), glueL q ((rI z % (q.length : Int)).toNat + 1)))) := by
      have c0 : (q.length : Int) < n := by omega
      have c1 : (q.length : Int) ≠ 0 := by omega
      have w0 : Int.tmod (rI z) (q.length : Int) = rI z % (q.length : Int) := Int.tmod_eq_emod_of_nonneg (by omega)
      have w1 : w64 (rI z % (q.length : Int) + 1) = (((rI z % (q.length : Int)).toNat + 1 : Nat) : Int) := by rw [w64_id (by omega) (by omega)]; omega
      have hg := s_GlueEar_eq q ((rI z % (q.length : Int)).toNat + 1) g0 (by omega) (by omega) g2 (by omega) (by omega)
      simp only [s_MakePuzzle_L5_step, T.run, c0, c1, ne_eq, not_false_eq_true, decide_true, if_true, rI_w h1 h2, w0, Option.bind_some, Nat.zero_add, Nat.le_refl, win_all, w1, hg, and_self]
    by_cases h5 : k < 5
    · have ih := s_MakePuzzle_glue n gaps m (k + 1) _ (rI z) (glued_go k h5 q hq _ hj) (by omega) (by omega) hr.1 hr.2
      simp only [s_MakePuzzle_L5, mkN] at ih ⊢
      rw [loopO_next st, ih]
    · have hm0 : m = 0 := by omega
      subst hm0
      simp only [s_MakePuzzle_L5, mkN]
      rw [loopO_next st]
      refine loopO_done ?_
      have hlen : (glueL q ((rI z % (q.length : Int)).toNat + 1)).length = q.length + 1 := by
        have f1 := (glueL_facts (q := q) (at' := (rI z % (q.length : Int)).toNat + 1) (by omega) (by omega) (by omega) g2).1
        unfold glueL; simp only [List.length_set, f1]
      have : ¬ (((q.length + 1 : Nat) : Int) < n) := by omega
      simp only [s_MakePuzzle_L5_step, T.run, hlen, this, decide_false]
      simp
theorem s_MakePuzzle_places (q : List Int) (g z : Int) (hl : q.length < 1000) : s_MakePuzzle_L13 ((g, ((), (z, ((), ((), ((), ((q.length : Int), (0 : Int)))))))), ((), ((), (q, ([] : List Int))))) = some ((g, ((), (z, ((), ())))), ((), ((), (q, pl q)))) := by
  have h := loop_fold (step := fun v => (s_MakePuzzle_L13_step v).run) (xs := List.range q.length) (fun k (s : List Int) => s.length ≤ k) (fun k s => ((g, ((), (z, ((), ((), ((), ((q.length : Int), (k : Int)))))))), ((), ((), (q, s))))) (plG q) (fun s => ((g, ((), (z, ((), ())))), ((), ((), (q, s)))))
    (fun k s x hP hx => by
      obtain ⟨hk, e⟩ := List.getElem?_eq_some_iff.1 hx
      simp only [List.getElem_range] at e
      subst e
      rw [List.length_range] at hk
      have g0 := set_getD hk
      have c0 : (k : Int) < (q.length : Int) := by omega
      have c1 : (0 : Int) ≤ (k : Int) ∧ (k : Int) < (q.length : Int) := by omega
      have c2 : 2 * ((s.length + 1) * 9) ≤ 140737488355328 := by omega
      have w1 : w64 ((k : Int) + 1) = ((k + 1 : Nat) : Int) := by rw [w64_id (by omega) (by omega)]; omega
      by_cases hz : q.getD k 0 > 0
      · have e : plG q s k = s ++ [(k : Int)] := by unfold plG; rw [if_pos hz]
        refine ⟨?_, by rw [e]; simp; omega⟩
        rw [e]
        simp only [s_MakePuzzle_L13_step, T.run, c0, c1, decide_true, if_true, and_self, Int.toNat_natCast, Nat.zero_add, g0, Option.bind_some, hz, win_one, win_all, w1, List.length_cons, List.length_nil, c2, List.length_set, List.length_replicate, Nat.le_refl, List.length_append]
      · have e : plG q s k = s := by unfold plG; rw [if_neg hz]
        refine ⟨?_, by rw [e]; omega⟩
        rw [e]
        simp only [s_MakePuzzle_L13_step, T.run, c0, c1, decide_true, if_true, and_self, Int.toNat_natCast, Nat.zero_add, g0, Option.bind_some, hz, decide_false, Bool.false_eq_true, if_false, w1])
    (fun s hs => by simp [s_MakePuzzle_L13_step, T.run])
    [] (by simp)
  simp only [Int.natCast_zero] at h
  simp only [s_MakePuzzle_L13]
  exact h.1
theorem s_MakePuzzle_gaps : ∀ (m : Nat) (q : List Int) (z : Int), q.length < 1000 → m < 1000 → m ≤ (pl q).length → 0 ≤ z → z < 10007 →
    s_MakePuzzle_L9 (((m : Int), ((), (z, ()))), ((), ((), q))) = some (((), ()), ((), ((), gapN m q z)))
  | 0, q, z, hl, hm, hp, h1, h2 => by
    simp only [s_MakePuzzle_L9, gapN]
    refine loopO_done ?_
    simp [s_MakePuzzle_L9_step, T.run]
  | m + 1, q, z, hl, hm, hp, h1, h2 => by
    have hr := rI_B z
    obtain ⟨p1, p2, p3, p4⟩ := pl_pick (q := q) (z := z) (by omega)
    obtain ⟨b1, b2, b3⟩ := pl_mem p4
    have hs := pl_set p4
    have ih := s_MakePuzzle_gaps m (q.set ((pl q).getD (rI z % ((pl q).length : Int)).toNat 0).toNat 0) (rI z) (by simpa using hl) (by omega) (by omega) hr.1 hr.2
    simp only [s_MakePuzzle_L9, gapN] at ih ⊢
    rw [← ih]
    refine loopO_next ?_
    have c0 : ((m + 1 : Nat) : Int) > 0 := by omega
    have w1 : w64 (((m + 1 : Nat) : Int) - 1) = (m : Int) := by rw [w64_id (by omega) (by omega)]; omega
    have w0 : Int.tmod (rI z) ((pl q).length : Int) = rI z % ((pl q).length : Int) := Int.tmod_eq_emod_of_nonneg (by omega)
    have c1 : 0 ≤ rI z % ((pl q).length : Int) ∧ rI z % ((pl q).length : Int) < ((pl q).length : Int) := ⟨p1, p2⟩
    have c3 : ((pl q).length : Int) ≠ 0 := by omega
    have hpp := s_pzPut_eq q ((pl q).getD (rI z % ((pl q).length : Int)).toNat 0) 0 (by omega) b1 b2
    simp only [s_MakePuzzle_L9_step, T.run, c0, decide_true, if_true, true_and, List.length_nil, s_MakePuzzle_places q _ z hl, Option.bind_some, rI_w h1 h2, w0, c1, c3, ne_eq, not_false_eq_true, and_self, Nat.zero_add, p3, Nat.le_refl, win_all, hpp, List.length_set, w1]
theorem s_MakePuzzle_eq (n g s : Int) : s_MakePuzzle (n, (g, s)) = some (((), (mkPz n g s).1), (mkPz n g s).2) := by
  simp only [s_MakePuzzle, s_MakePuzzle_w, s_MakePuzzle_t, T.run, s_l1In_eq, Option.bind_some, mkPz]
  cases hn : inB 3 9 n with
  | false => simp [s_MakePuzzle_m]
  | true =>
    cases hg : inB 0 n g with
    | false => simp [s_MakePuzzle_m]
    | true =>
      cases hs : inB 0 9999 s with
      | false => simp [s_MakePuzzle_m]
      | true =>
        obtain ⟨m, m1, m2, m3, s1, s2, hq⟩ := mk_start n hn s hs
        have hset : List.set (List.set (List.set (List.replicate 3 (0 : Int)) 0 (1 : Int)) 1 (1 : Int)) 2 (1 : Int) = [1, 1, 1] := rfl
        have h5 := s_MakePuzzle_glue n g m 0 [1, 1, 1] s hq (by omega) m3 s1 s2
        obtain ⟨⟨f1, f2⟩, f3, f4⟩ := mkN_facts m 0 [1, 1, 1] s hq (by omega) s1 s2
        rw [inB_iff] at hg hn
        have h8 := s_MakePuzzle_gaps g.toNat (mkN m [1, 1, 1] s).1 (mkN m [1, 1, 1] s).2 (by omega) (by omega) (by rw [pl_full f2, f1]; omega) f3 f4
        have hown := s_l1Own_eq (mkN m [1, 1, 1] s).1 (by omega)
        rw [show ((g.toNat : Nat) : Int) = g by omega] at h8
        simp only [Bool.not_true, Bool.false_eq_true, if_false, hset, h5, Option.bind_some] at h8 ⊢
        simp [h8, m1, s_MakePuzzle_m, win_all, hown]


def i_within_sh : FSh := ⟨[(.one (.si .i64)), (.one (.si .i64)), (.one (.si .i64))], []⟩

def i_within_fo : List FO := [⟨[(.one .sb)], []⟩]
noncomputable def i_within_t : (Int × Int × Int) → T Bool := fun (n, low, high) =>
  (.test (decide (n ≥ low))
  (.ret (decide (n ≤ high)))
  (.ret false))
noncomputable def i_within (v : (Int × Int × Int)) : Option Bool := (i_within_t v).run
noncomputable def i_within_E : TEnv := E0
theorem i_within_Eok : (i_within_E).OK := E0ok
noncomputable def i_within_told : Nat → Option SealT := fun id => none
theorem i_within_ok : FOK Try.prog n_i_within i_within_sh i_within_fo i_within :=
  fn_ok (E := i_within_E) (i_within_Eok) (told := i_within_told) (fl := []) (c := bodyOf fn_i_within) (s := i_within_sh) (l := i_within_fo) (tree := i_within_t) fnat_i_within (by kernel_rfl) (by kernel_rfl) (by kernel_rfl) (loopsOK_of (ls := []) (by kernel_rfl) trivial) (fun v => by kernel_rfl)

theorem i_within_eq (n low high : Int) : i_within (n, low, high) = some (inB low high n) := by
  simp only [i_within, i_within_t, T.run, ge_iff_le, decide_eq_true_eq, inB]
  by_cases h : low ≤ n <;> simp [h]


def i_MakePuzzle_1_sh : FSh := ⟨[(.one (.si .i64)), (.one (.pf 0 0 0))], [(.rcd 0 [(.si .i64)])]⟩

def i_MakePuzzle_1_fo : List FO := [⟨[(.one (.si .i64))], [(.rcd 0 [(.si .i64)])]⟩]
noncomputable def i_MakePuzzle_1_t : ((Int × Unit) × Int) → T (Int × Int) := fun ((n, ()), t1_0) =>
  (.test true
  (.test (decide (n ≠ 0))
   (.ret ((Int.tmod (Int.tmod (w64 ((w64 (t1_0 * 187)) + 3301)) (10007 : Int)) n), (Int.tmod (w64 ((w64 (t1_0 * 187)) + 3301)) (10007 : Int))))
   .fail)
  .fail)
noncomputable def i_MakePuzzle_1 (v : ((Int × Unit) × Int)) : Option (Int × Int) := (i_MakePuzzle_1_t v).run
noncomputable def i_MakePuzzle_1_E : TEnv := E0
theorem i_MakePuzzle_1_Eok : (i_MakePuzzle_1_E).OK := E0ok
noncomputable def i_MakePuzzle_1_told : Nat → Option SealT := fun id => none
theorem i_MakePuzzle_1_ok : FOK Try.prog n_i_MakePuzzle_1 i_MakePuzzle_1_sh i_MakePuzzle_1_fo i_MakePuzzle_1 :=
  fn_ok (E := i_MakePuzzle_1_E) (i_MakePuzzle_1_Eok) (told := i_MakePuzzle_1_told) (fl := []) (c := bodyOf fn_i_MakePuzzle_1) (s := i_MakePuzzle_1_sh) (l := i_MakePuzzle_1_fo) (tree := i_MakePuzzle_1_t) fnat_i_MakePuzzle_1 (by kernel_rfl) (by kernel_rfl) (by kernel_rfl) (loopsOK_of (ls := []) (by kernel_rfl) trivial) (fun v => by kernel_rfl)

theorem i_MakePuzzle_1_eq (n z : Int) (hn : 0 < n) (h1 : 0 ≤ z) (h2 : z < 10007) : i_MakePuzzle_1 ((n, ()), z) = some (rI z % n, rI z) := by
  have := rI_B z
  simp only [i_MakePuzzle_1, i_MakePuzzle_1_t, T.run, rI_w h1 h2]
  rw [Int.tmod_eq_emod_of_nonneg (by omega)]
  simp
  omega


def i_isPolygon_sh : FSh := ⟨[(.one (.si .i64))], []⟩

def i_isPolygon_fo : List FO := [⟨[(.one .sb)], []⟩]
noncomputable def i_isPolygon_t : Int → T Bool := fun n =>
  (.sub (i_within (n, ((3 : Int), (12 : Int)))) fun z0 =>
  (.ret z0))
noncomputable def i_isPolygon (v : Int) : Option Bool := (i_isPolygon_t v).run
noncomputable def i_isPolygon_E : TEnv := (E0.add1 n_i_within i_within_sh i_within_fo i_within)
theorem i_isPolygon_Eok : (i_isPolygon_E).OK := (E0ok.add1 i_within_ok)
noncomputable def i_isPolygon_told : Nat → Option SealT := fun id => none
theorem i_isPolygon_ok : FOK Try.prog n_i_isPolygon i_isPolygon_sh i_isPolygon_fo i_isPolygon :=
  fn_ok (E := i_isPolygon_E) (i_isPolygon_Eok) (told := i_isPolygon_told) (fl := []) (c := bodyOf fn_i_isPolygon) (s := i_isPolygon_sh) (l := i_isPolygon_fo) (tree := i_isPolygon_t) fnat_i_isPolygon (by kernel_rfl) (by kernel_rfl) (by kernel_rfl) (loopsOK_of (ls := []) (by kernel_rfl) trivial) (fun v => by kernel_rfl)

def slices_Clone_int_sh : FSh := ⟨[.one (.sl (.int .i64) false false)], []⟩
def slices_Clone_int_fo : List FO := [⟨[.one (.rw 0 0)], [.row 0 (.int .i64)]⟩]
def slices_Clone_int (v : List Int) : Option (Unit × List Int) := if v.length ≤ maxLen ∧ v.length * 8 ≤ 140737488355328 then some ((), v) else none
def slices_Clone_int_ren : Shelf.Ren := ⟨fun _ => n_slices_Clone_int, fun t => if t = 4 then 4 else if t = 22 then 22 else 3, fun x => x⟩
theorem slices_Clone_int_lay : SlLaysE0.n41 Try.prog slices_Clone_int_ren :=
  { mixed := by kernel_rfl, f41 := ⟨"slices.Clone[[]int,int]", by kernel_rfl, by kernel_rfl⟩, t4 := by kernel_rfl, a4 := fun w => by kernel_rfl, z4 := fun w => by kernel_rfl, v4 := fun w => by kernel_rfl, t22 := by kernel_rfl, a22 := fun w => by kernel_rfl, z22 := fun w => by kernel_rfl, v22 := fun w => by kernel_rfl }
noncomputable def slices_Clone_int_info : TypeInfo := (Try.prog.info? 3).get (by kernel_rfl)
theorem slices_Clone_int_ok : FOK Try.prog n_slices_Clone_int slices_Clone_int_sh slices_Clone_int_fo slices_Clone_int :=
  clone_ok (e := .int .i64) ⟨_, fnat_slices_Clone_int, by kernel_rfl, by kernel_rfl⟩ (ρr := slices_Clone_int_ren) rfl slices_Clone_int_lay rfl slices_Clone_int_info (.int .i64 0) 8 (by kernel_rfl) (by kernel_rfl) (by kernel_rfl) (by kernel_rfl) (by decide) (by decide) (fun w => by kernel_rfl)

def slices_Index_int_sh : FSh := ⟨[(.one (.sl (.int .i64) false false)), (.one (.si .i64))], []⟩

def slices_Index_int_L2_sh : LSh := ⟨(fun ex => match ex with | .norm => [(0, none), (1, none), (7, none), (8, none)] | .exit i => if i = 0 then [] else [] | .ret => [(4, none)]), [(0, (.one (.sl (.int .i64) false false))), (1, (.one (.si .i64))), (7, (.one (.si .i64))), (8, (.one (.si .i64)))], [], [⟨.ret, [(4, (.one (.si .i64)))], []⟩, ⟨(.exit 0), [], []⟩], [], []⟩
noncomputable def slices_Index_int_L2_step : (List (Int) × Int × Int × Int) → T ((List (Int) × Int × Int × Int) ⊕ (Int ⊕ Unit)) := fun (s, v, t7, t8) =>
  (.test (decide (t8 < t7))
  (.test (decide ((0 ≤ t8) ∧ (t8 < ((List.length s) : Int))))
   (.sub (s[(Int.toNat t8)]?) fun z0 =>
    (.test (v == z0)
    (.ret (Sum.inr (Sum.inl t8)))
    (.ret (Sum.inl (s, (v, (t7, (w64 (t8 + 1)))))))))
   .fail)
  (.ret (Sum.inr (Sum.inr ()))))
noncomputable def slices_Index_int_L2 (v : (List (Int) × Int × Int × Int)) : Option (Int ⊕ Unit) := loopO (fun v => (slices_Index_int_L2_step v).run) v

def slices_Index_int_fo : List FO := [⟨[(.one (.si .i64))], []⟩]
noncomputable def slices_Index_int_t : (List (Int) × Int) → T Int := fun (s, v) =>
  (.sub (slices_Index_int_L2 (s, (v, (((List.length s) : Int), (0 : Int))))) fun z0 =>
  (.test (Sum.isLeft z0)
  (.sub (Sum.getLeft? z0) fun z1 =>
   (.ret z1))
  (.sub (Sum.getRight? z0) fun z2 =>
   (.ret (-1)))))
noncomputable def slices_Index_int (v : (List (Int) × Int)) : Option Int := (slices_Index_int_t v).run
noncomputable def slices_Index_int_E : TEnv := E0
theorem slices_Index_int_Eok : (slices_Index_int_E).OK := E0ok
noncomputable def slices_Index_int_told : Nat → Option SealT := fun id => if id = 2 then some (LSh.told slices_Index_int_L2_sh 0 (slices_Index_int_L2_step)) else none
theorem slices_Index_int_L2_ok : ToldOK Try.prog 0 (loopAt (bodyOf fn_slices_Index_int) [0]) (LSh.told slices_Index_int_L2_sh 0 (slices_Index_int_L2_step)) :=
  loop_ok (E := slices_Index_int_E) (slices_Index_int_Eok) (told := slices_Index_int_told) (l := slices_Index_int_L2_sh) (step := slices_Index_int_L2_step) (loopsOK_of (ls := []) (by kernel_rfl) trivial) (by kernel_rfl) (fun v => by kernel_rfl)
theorem slices_Index_int_ok : FOK Try.prog n_slices_Index_int slices_Index_int_sh slices_Index_int_fo slices_Index_int :=
  fn_ok (E := slices_Index_int_E) (slices_Index_int_Eok) (told := slices_Index_int_told) (fl := []) (c := bodyOf fn_slices_Index_int) (s := slices_Index_int_sh) (l := slices_Index_int_fo) (tree := slices_Index_int_t) fnat_slices_Index_int (by kernel_rfl) (by kernel_rfl) (by kernel_rfl) (loopsOK_of (ls := [loopAt (bodyOf fn_slices_Index_int) [0]]) (by kernel_rfl) ⟨.inr ⟨_, by kernel_rfl, slices_Index_int_L2_ok⟩, trivial⟩) (fun v => by kernel_rfl)

theorem slices_Index_int_eq (s : List Int) (v : Int) (hl : s.length < 4611686018427387904) : slices_Index_int (s, v) = some (idxI (fun x => v == x) s) := by
  have h := loop_find (step := fun v => (slices_Index_int_L2_step v).run) (xs := s) (fun x => v == x) (fun k => (s, (v, ((s.length : Int), (k : Int))))) (fun k => .inl (k : Int)) (.inr ())
    (fun k x hx => by
      have hlt := getElem?_lt hx
      have h1 : (k : Int) < (s.length : Int) := by omega
      have h2 : (0 : Int) ≤ k ∧ (k : Int) < (s.length : Int) := by omega
      simp only [slices_Index_int_L2_step, T.run, Int.toNat_natCast, hx, Option.bind_some, h1, h2, decide_true, if_true, and_self]
      rw [w64_id (z := (k : Int) + 1) (by omega) (by omega)]
      cases hv : (v == x) <;> simp [hv])
    (by simp [slices_Index_int_L2_step, T.run])
  rw [show ((0 : Nat) : Int) = 0 from rfl] at h
  simp only [slices_Index_int, slices_Index_int_t, T.run, slices_Index_int_L2]
  rw [h]
  simp only [idxI]
  cases hf : s.findIdx? (fun x => v == x) <;> simp [Sum.isLeft, hf]


def slices_Delete_int_sh : FSh := ⟨[.one (.rw 0 0), .one (.si .i64), .one (.si .i64)], [.row 0 (.int .i64)]⟩
def slices_Delete_int_fo : List FO := [⟨[.one (.rw 0 0)], [.row 0 (.int .i64)]⟩]
def slices_Delete_int (v : (Unit × Int × Int) × List Int) : Option (Unit × List Int) := if 0 ≤ v.1.2.1 ∧ v.1.2.1 < v.1.2.2 ∧ v.1.2.2 ≤ (v.2.length : Int) ∧ v.2.length ≤ 4611686018427387904 then some ((), v.2.take v.1.2.1.toNat ++ v.2.drop v.1.2.2.toNat) else none
def slices_Delete_int_ren : Shelf.Ren := ⟨fun _ => n_slices_Delete_int, fun t => if t = 0 then 0 else if t = 3 then 3 else if t = 4 then 4 else if t = 22 then 22 else 3, fun x => x⟩
theorem slices_Delete_int_lay : SlLaysE0.n45 Try.prog slices_Delete_int_ren :=
  { mixed := by kernel_rfl, f45 := ⟨"slices.Delete[[]int,int]", by kernel_rfl, by kernel_rfl⟩, t0 := by kernel_rfl, a0 := fun w => by kernel_rfl, z0 := fun w => by kernel_rfl, v0 := fun w => by kernel_rfl, t3 := by kernel_rfl, a3 := fun w => by kernel_rfl, z3 := fun w => by kernel_rfl, v3 := fun w => by kernel_rfl, t4 := by kernel_rfl, a4 := fun w => by kernel_rfl, z4 := fun w => by kernel_rfl, v4 := fun w => by kernel_rfl, t22 := by kernel_rfl, a22 := fun w => by kernel_rfl, z22 := fun w => by kernel_rfl, v22 := fun w => by kernel_rfl }
noncomputable def slices_Delete_int_info : TypeInfo := (Try.prog.info? 3).get (by kernel_rfl)
theorem slices_Delete_int_ok : FOK Try.prog n_slices_Delete_int slices_Delete_int_sh slices_Delete_int_fo slices_Delete_int :=
  delete_ok ⟨_, fnat_slices_Delete_int, by kernel_rfl, by kernel_rfl⟩ (ρr := slices_Delete_int_ren) rfl slices_Delete_int_lay (fun w => by kernel_rfl) (fun w => by kernel_rfl) (fun w => by kernel_rfl) slices_Delete_int_info (by kernel_rfl) (by kernel_rfl)

def math_bits_Len_sh : FSh := ⟨[.one (.si .u64)], []⟩
def math_bits_Len_fo : List FO := [⟨[.one (.si .i64)], []⟩]
def math_bits_Len (x : Int) : Option Int := if 0 ≤ x ∧ x ≤ 18446744073709551615 then some (Lib.bitLen x.toNat : Int) else none
def math_bits_Len_ren : Shelf.Ren := ⟨fun k => if k = 125 then n_math_bits_Len else if k = 128 then 127 else 128, fun t => if t = 3 then 3 else if t = 4 then 4 else if t = 5 then 5 else if t = 9 then 9 else if t = 46 then 98 else if t = 51 then 118 else 120, fun x => x⟩
theorem math_bits_Len_lay : Lays.n125 Try.prog math_bits_Len_ren :=
  { mixed := by kernel_rfl, f125 := by kernel_rfl, f128 := by kernel_rfl, f129 := by kernel_rfl, t3 := by kernel_rfl, a3 := fun w => by kernel_rfl, z3 := fun w => by kernel_rfl, v3 := fun w => by kernel_rfl, t4 := by kernel_rfl, a4 := fun w => by kernel_rfl, z4 := fun w => by kernel_rfl, v4 := fun w => by kernel_rfl, t5 := by kernel_rfl, a5 := fun w => by kernel_rfl, z5 := fun w => by kernel_rfl, v5 := fun w => by kernel_rfl, t9 := by kernel_rfl, a9 := fun w => by kernel_rfl, z9 := fun w => by kernel_rfl, v9 := fun w => by kernel_rfl, t46 := by kernel_rfl, a46 := fun w => by kernel_rfl, z46 := fun w => by kernel_rfl, v46 := fun w => by kernel_rfl, t51 := by kernel_rfl, a51 := fun w => by kernel_rfl, z51 := fun w => by kernel_rfl, v51 := fun w => by kernel_rfl, t53 := by kernel_rfl, a53 := fun w => by kernel_rfl, z53 := fun w => by kernel_rfl, v53 := fun w => by kernel_rfl }
theorem math_bits_Len_ok : FOK Try.prog n_math_bits_Len math_bits_Len_sh math_bits_Len_fo math_bits_Len :=
  bitsLen_ok ⟨_, fnat_math_bits_Len, by kernel_rfl, by kernel_rfl⟩ (ρr := math_bits_Len_ren) rfl math_bits_Len_lay

def cmp_isNaN_int_sh : FSh := ⟨[(.one (.si .i64))], []⟩

def cmp_isNaN_int_fo : List FO := [⟨[(.one .sb)], []⟩]
noncomputable def cmp_isNaN_int_t : Int → T Bool := fun x =>
  (.ret (x != x))
noncomputable def cmp_isNaN_int (v : Int) : Option Bool := (cmp_isNaN_int_t v).run
noncomputable def cmp_isNaN_int_E : TEnv := E0
theorem cmp_isNaN_int_Eok : (cmp_isNaN_int_E).OK := E0ok
noncomputable def cmp_isNaN_int_told : Nat → Option SealT := fun id => none
theorem cmp_isNaN_int_ok : FOK Try.prog n_cmp_isNaN_int cmp_isNaN_int_sh cmp_isNaN_int_fo cmp_isNaN_int :=
  fn_ok (E := cmp_isNaN_int_E) (cmp_isNaN_int_Eok) (told := cmp_isNaN_int_told) (fl := []) (c := bodyOf fn_cmp_isNaN_int) (s := cmp_isNaN_int_sh) (l := cmp_isNaN_int_fo) (tree := cmp_isNaN_int_t) fnat_cmp_isNaN_int (by kernel_rfl) (by kernel_rfl) (by kernel_rfl) (loopsOK_of (ls := []) (by kernel_rfl) trivial) (fun v => by kernel_rfl)

def cmp_Compare_int_sh : FSh := ⟨[(.one (.si .i64)), (.one (.si .i64))], []⟩

def cmp_Compare_int_fo : List FO := [⟨[(.one (.si .i64))], []⟩]
noncomputable def cmp_Compare_int_t : (Int × Int) → T Int := fun (x, y) =>
  (.sub (cmp_isNaN_int x) fun z0 =>
  (.sub (cmp_isNaN_int y) fun z1 =>
  (.test z0
  (.test z1
   (.ret (0 : Int))
   (.ret (-1)))
  (.test z1
   (.ret (1 : Int))
   (.test (decide (x < y))
    (.ret (-1))
    (.test (decide (x > y))
     (.ret (1 : Int))
     (.ret (0 : Int))))))))
noncomputable def cmp_Compare_int (v : (Int × Int)) : Option Int := (cmp_Compare_int_t v).run
noncomputable def cmp_Compare_int_E : TEnv := (E0.add1 n_cmp_isNaN_int cmp_isNaN_int_sh cmp_isNaN_int_fo cmp_isNaN_int)
theorem cmp_Compare_int_Eok : (cmp_Compare_int_E).OK := (E0ok.add1 cmp_isNaN_int_ok)
noncomputable def cmp_Compare_int_told : Nat → Option SealT := fun id => none
theorem cmp_Compare_int_ok : FOK Try.prog n_cmp_Compare_int cmp_Compare_int_sh cmp_Compare_int_fo cmp_Compare_int :=
  fn_ok (E := cmp_Compare_int_E) (cmp_Compare_int_Eok) (told := cmp_Compare_int_told) (fl := []) (c := bodyOf fn_cmp_Compare_int) (s := cmp_Compare_int_sh) (l := cmp_Compare_int_fo) (tree := cmp_Compare_int_t) fnat_cmp_Compare_int (by kernel_rfl) (by kernel_rfl) (by kernel_rfl) (loopsOK_of (ls := []) (by kernel_rfl) trivial) (fun v => by kernel_rfl)

theorem cmp_Compare_int_eq (a b : Int) : cmp_Compare_int (a, b) = some (if a < b then -1 else if b < a then 1 else 0) := by
  have h : ∀ x, cmp_isNaN_int x = some false := fun x => by simp [cmp_isNaN_int, cmp_isNaN_int_t, T.run]
  simp only [cmp_Compare_int, cmp_Compare_int_t, T.run, h, Option.bind_some]
  by_cases h1 : a < b
  · simp [h1]
  · by_cases h2 : b < a <;> simp [h1, h2]


def cmp_Or_int_sh : FSh := ⟨[(.one (.sl (.int .i64) false false))], []⟩

def cmp_Or_int_L3_sh : LSh := ⟨(fun ex => match ex with | .norm => [(3, none), (6, none), (7, none), (8, none)] | .exit i => if i = 0 then [(3, none)] else [] | .ret => [(2, none)]), [(3, (.one (.si .i64))), (6, (.one (.sl (.int .i64) false false))), (7, (.one (.si .i64))), (8, (.one (.si .i64)))], [], [⟨.ret, [(2, (.one (.si .i64)))], []⟩, ⟨(.exit 0), [(3, (.one (.si .i64)))], []⟩], [], []⟩
noncomputable def cmp_Or_int_L3_step : (Int × List (Int) × Int × Int) → T ((Int × List (Int) × Int × Int) ⊕ (Int ⊕ Int)) := fun (zero, t6, t7, t8) =>
  (.test (decide (t8 < t7))
  (.test (decide ((0 ≤ t8) ∧ (t8 < ((List.length t6) : Int))))
   (.sub (t6[(Int.toNat t8)]?) fun z0 =>
    (.test (z0 != zero)
    (.ret (Sum.inr (Sum.inl z0)))
    (.ret (Sum.inl (zero, (t6, (t7, (w64 (t8 + 1)))))))))
   .fail)
  (.ret (Sum.inr (Sum.inr zero))))
noncomputable def cmp_Or_int_L3 (v : (Int × List (Int) × Int × Int)) : Option (Int ⊕ Int) := loopO (fun v => (cmp_Or_int_L3_step v).run) v

def cmp_Or_int_fo : List FO := [⟨[(.one (.si .i64))], []⟩]
noncomputable def cmp_Or_int_t : List (Int) → T Int := fun vals =>
  (.sub (cmp_Or_int_L3 ((0 : Int), (vals, (((List.length vals) : Int), (0 : Int))))) fun z0 =>
  (.test (Sum.isLeft z0)
  (.sub (Sum.getLeft? z0) fun z1 =>
   (.ret z1))
  (.sub (Sum.getRight? z0) fun z2 =>
   (.ret z2))))
noncomputable def cmp_Or_int (v : List (Int)) : Option Int := (cmp_Or_int_t v).run
noncomputable def cmp_Or_int_E : TEnv := E0
theorem cmp_Or_int_Eok : (cmp_Or_int_E).OK := E0ok
noncomputable def cmp_Or_int_told : Nat → Option SealT := fun id => if id = 3 then some (LSh.told cmp_Or_int_L3_sh 0 (cmp_Or_int_L3_step)) else none
theorem cmp_Or_int_L3_ok : ToldOK Try.prog 0 (loopAt (bodyOf fn_cmp_Or_int) [0]) (LSh.told cmp_Or_int_L3_sh 0 (cmp_Or_int_L3_step)) :=
  loop_ok (E := cmp_Or_int_E) (cmp_Or_int_Eok) (told := cmp_Or_int_told) (l := cmp_Or_int_L3_sh) (step := cmp_Or_int_L3_step) (loopsOK_of (ls := []) (by kernel_rfl) trivial) (by kernel_rfl) (fun v => by kernel_rfl)
theorem cmp_Or_int_ok : FOK Try.prog n_cmp_Or_int cmp_Or_int_sh cmp_Or_int_fo cmp_Or_int :=
  fn_ok (E := cmp_Or_int_E) (cmp_Or_int_Eok) (told := cmp_Or_int_told) (fl := []) (c := bodyOf fn_cmp_Or_int) (s := cmp_Or_int_sh) (l := cmp_Or_int_fo) (tree := cmp_Or_int_t) fnat_cmp_Or_int (by kernel_rfl) (by kernel_rfl) (by kernel_rfl) (loopsOK_of (ls := [loopAt (bodyOf fn_cmp_Or_int) [0]]) (by kernel_rfl) ⟨.inr ⟨_, by kernel_rfl, cmp_Or_int_L3_ok⟩, trivial⟩) (fun v => by kernel_rfl)

theorem cmp_Or_int_two (a b : Int) : cmp_Or_int [a, b] = some (if a = 0 then b else a) := by
  simp only [cmp_Or_int, cmp_Or_int_t, T.run, cmp_Or_int_L3]
  rw [loopO_step]
  simp only [cmp_Or_int_L3_step, T.run]
  by_cases ha : a = 0
  · subst ha
    simp [w64_id (z := 1)]
    rw [loopO_step]
    simp only [cmp_Or_int_L3_step, T.run]
    by_cases hb : b = 0
    · subst hb
      simp [w64_id (z := 2)]
      rw [loopO_step]
      simp [cmp_Or_int_L3_step, T.run]
    · simp [hb]
  · simp [ha]


def i_compareDiagonals_sh : FSh := ⟨[(.ag [(.si .i64), (.si .i64)]), (.ag [(.si .i64), (.si .i64)])], []⟩

def i_compareDiagonals_fo : List FO := [⟨[(.one (.si .i64))], []⟩]
noncomputable def i_compareDiagonals_t : ((Int × Int) × (Int × Int)) → T Int := fun ((a_0, a_1), (b_0, b_1)) =>
  (.sub (cmp_Compare_int (a_0, b_0)) fun z0 =>
  (.sub (cmp_Compare_int (a_1, b_1)) fun z1 =>
  (.test (decide (2 ≤ (List.length (List.set (List.set (List.replicate 2 (0 : Int)) 0 z0) 1 z1))))
  (.sub (cmp_Or_int (win (List.set (List.set (List.replicate 2 (0 : Int)) 0 z0) 1 z1) 0 2)) fun z2 =>
   (.ret z2))
  .fail)))
noncomputable def i_compareDiagonals (v : ((Int × Int) × (Int × Int))) : Option Int := (i_compareDiagonals_t v).run
noncomputable def i_compareDiagonals_E : TEnv := ((E0.add1 n_cmp_Compare_int cmp_Compare_int_sh cmp_Compare_int_fo cmp_Compare_int).add1 n_cmp_Or_int cmp_Or_int_sh cmp_Or_int_fo cmp_Or_int)
theorem i_compareDiagonals_Eok : (i_compareDiagonals_E).OK := ((E0ok.add1 cmp_Compare_int_ok).add1 cmp_Or_int_ok)
noncomputable def i_compareDiagonals_told : Nat → Option SealT := fun id => none
theorem i_compareDiagonals_ok : FOK Try.prog n_i_compareDiagonals i_compareDiagonals_sh i_compareDiagonals_fo i_compareDiagonals :=
  fn_ok (E := i_compareDiagonals_E) (i_compareDiagonals_Eok) (told := i_compareDiagonals_told) (fl := []) (c := bodyOf fn_i_compareDiagonals) (s := i_compareDiagonals_sh) (l := i_compareDiagonals_fo) (tree := i_compareDiagonals_t) fnat_i_compareDiagonals (by kernel_rfl) (by kernel_rfl) (by kernel_rfl) (loopsOK_of (ls := []) (by kernel_rfl) trivial) (fun v => by kernel_rfl)

theorem i_compareDiagonals_eq (d e : Dg) : i_compareDiagonals (d, e) = some (cmpD d e) := by
  obtain ⟨a, b⟩ := d
  obtain ⟨c, f⟩ := e
  have h2 : win (List.set (List.set (List.replicate 2 (0 : Int)) 0 (if a < c then -1 else if c < a then 1 else 0)) 1 (if b < f then -1 else if f < b then 1 else 0)) 0 2 = [if a < c then -1 else if c < a then 1 else 0, if b < f then -1 else if f < b then 1 else 0] := rfl
  simp only [i_compareDiagonals, i_compareDiagonals_t, T.run, cmp_Compare_int_eq, Option.bind_some, h2, cmp_Or_int_two]
  simp only [List.length_set, List.length_replicate, Nat.le_refl, decide_true, if_true]
  congr 1
  unfold cmpD ltD
  simp only [decide_eq_true_eq]
  split <;> split <;> (try split) <;> (try split) <;> omega
theorem cmpD_lt (d e : Dg) : decide (cmpD d e < 0) = ltD d e := by
  unfold cmpD
  cases ltD d e <;> simp
  split <;> omega
theorem cmpD_ge (d e : Dg) : decide (cmpD d e ≥ 0) = !ltD d e := by
  unfold cmpD
  cases ltD d e <;> simp
  split <;> omega


def slices_insertionSortCmpFunc_Diagonal__i_compareDiagonals_sh : FSh := ⟨[(.one (.rw 0 0)), (.one (.si .i64)), (.one (.si .i64)), (.one (.fn n_i_compareDiagonals))], [(.row 0 (.pair (.int .i64) (.int .i64)))]⟩

def slices_insertionSortCmpFunc_Diagonal__i_compareDiagonals_L4_sh : LSh := ⟨(fun ex => match ex with | .norm => [(0, none), (1, none), (2, none), (3, none), (8, none), (9, none)] | .exit i => if i = 2 then [(0, none), (1, none), (2, none), (3, none), (8, none)] else if i = 1 then [(0, none), (1, none), (2, none), (3, none), (8, none)] else if i = 0 then [] else [] | .ret => []), [(0, (.one (.rw 0 0))), (1, (.one (.si .i64))), (2, (.one (.si .i64))), (3, (.one (.fn n_i_compareDiagonals))), (8, (.one (.si .i64))), (9, (.one (.si .i64)))], [(.row 0 (.pair (.int .i64) (.int .i64)))], [⟨(.exit 2), [(0, (.one (.rw 0 0))), (1, (.one (.si .i64))), (2, (.one (.si .i64))), (3, (.one (.fn n_i_compareDiagonals))), (8, (.one (.si .i64)))], [(.row 0 (.pair (.int .i64) (.int .i64)))]⟩], [], []⟩
noncomputable def slices_insertionSortCmpFunc_Diagonal__i_compareDiagonals_L4_step : ((Unit × Int × Int × Unit × Int × Int) × List ((Int × Int))) → T (((Unit × Int × Int × Unit × Int × Int) × List ((Int × Int))) ⊕ ((Unit × Int × Int × Unit × Int) × List ((Int × Int)))) := fun (((), a, b, (), i, j), data) =>
  (.test (decide (j > a))
  (.test (decide ((0 ≤ j) ∧ (j < ((List.length data) : Int))))
   (.sub (data[(0 + (Int.toNat j))]?) fun z0 =>
    (.test (decide ((0 ≤ (w64 (j - 1))) ∧ ((w64 (j - 1)) < ((List.length data) : Int))))
    (.sub (data[(0 + (Int.toNat (w64 (j - 1))))]?) fun z1 =>
     (.sub (i_compareDiagonals ((z0.1, z0.2), (z1.1, z1.2))) fun z2 =>
     (.test (decide (z2 < 0))
     (.test (decide ((0 ≤ (w64 (j - 1))) ∧ ((w64 (j - 1)) < ((List.length data) : Int))))
      (.sub (data[(0 + (Int.toNat (w64 (j - 1))))]?) fun z3 =>
       (.test (decide ((0 ≤ j) ∧ (j < ((List.length data) : Int))))
       (.sub (data[(0 + (Int.toNat j))]?) fun z4 =>
        (.test (decide ((0 ≤ j) ∧ (j < ((List.length data) : Int))))
        (.sub (data[(0 + (Int.toNat j))]?) fun z5 =>
         (.test (decide ((0 ≤ (w64 (j - 1))) ∧ ((w64 (j - 1)) < ((List.length data) : Int))))
         (.sub ((List.set data (0 + (Int.toNat j)) (z3.1, z3.2))[(0 + (Int.toNat (w64 (j - 1))))]?) fun z6 =>
          (.test (decide ((0 = 0) ∧ ((List.length data) = (List.length (List.set (List.set data (0 + (Int.toNat j)) (z3.1, z3.2)) (0 + (Int.toNat (w64 (j - 1)))) (z4.1, z4.2))))))
          (.ret (Sum.inl (((), (a, (b, ((), (i, (w64 (j - 1))))))), (List.set (List.set data (0 + (Int.toNat j)) (z3.1, z3.2)) (0 + (Int.toNat (w64 (j - 1)))) (z4.1, z4.2)))))
          .fail))
         .fail))
        .fail))
       .fail))
      .fail)
     (.test (decide ((0 = 0) ∧ ((List.length data) = (List.length data))))
      (.ret (Sum.inr (((), (a, (b, ((), i)))), data)))
      .fail))))
    .fail))
   .fail)
  (.test (decide ((0 = 0) ∧ ((List.length data) = (List.length data))))
   (.ret (Sum.inr (((), (a, (b, ((), i)))), data)))
   .fail))
noncomputable def slices_insertionSortCmpFunc_Diagonal__i_compareDiagonals_L4 (v : ((Unit × Int × Int × Unit × Int × Int) × List ((Int × Int)))) : Option ((Unit × Int × Int × Unit × Int) × List ((Int × Int))) := loopO (fun v => (slices_insertionSortCmpFunc_Diagonal__i_compareDiagonals_L4_step v).run) v

def slices_insertionSortCmpFunc_Diagonal__i_compareDiagonals_L1_sh : LSh := ⟨(fun ex => match ex with | .norm => [(0, none), (1, none), (2, none), (3, none), (8, none)] | .exit i => if i = 0 then [] else [] | .ret => []), [(0, (.one (.rw 0 0))), (1, (.one (.si .i64))), (2, (.one (.si .i64))), (3, (.one (.fn n_i_compareDiagonals))), (8, (.one (.si .i64)))], [(.row 0 (.pair (.int .i64) (.int .i64)))], [⟨(.exit 0), [], [(.row 0 (.pair (.int .i64) (.int .i64)))]⟩], [], []⟩
noncomputable def slices_insertionSortCmpFunc_Diagonal__i_compareDiagonals_L1_step : ((Unit × Int × Int × Unit × Int) × List ((Int × Int))) → T (((Unit × Int × Int × Unit × Int) × List ((Int × Int))) ⊕ (Unit × List ((Int × Int)))) := fun (((), a, b, (), i), data) =>
  (.test (decide (i < b))
  (.test (decide ((0 = 0) ∧ ((List.length data) = (List.length data))))
   (.sub (slices_insertionSortCmpFunc_Diagonal__i_compareDiagonals_L4 (((), (a, (b, ((), (i, i))))), data)) fun z0 =>
    (.test (decide ((0 = 0) ∧ ((List.length z0.2) = (List.length z0.2))))
    (.ret (Sum.inl (((), (z0.1.2.1, (z0.1.2.2.1, ((), (w64 (z0.1.2.2.2.2 + 1)))))), z0.2)))
    .fail))
   .fail)
  (.ret (Sum.inr ((), data))))
noncomputable def slices_insertionSortCmpFunc_Diagonal__i_compareDiagonals_L1 (v : ((Unit × Int × Int × Unit × Int) × List ((Int × Int)))) : Option (Unit × List ((Int × Int))) := loopO (fun v => (slices_insertionSortCmpFunc_Diagonal__i_compareDiagonals_L1_step v).run) v

def slices_insertionSortCmpFunc_Diagonal__i_compareDiagonals_fo : List FO := [⟨[], [(.row 0 (.pair (.int .i64) (.int .i64)))]⟩]
noncomputable def slices_insertionSortCmpFunc_Diagonal__i_compareDiagonals_t : ((Unit × Int × Int × Unit) × List ((Int × Int))) → T (Unit × List ((Int × Int))) := fun (((), a, b, ()), data) =>
  (.test (decide ((0 = 0) ∧ ((List.length data) = (List.length data))))
  (.sub (slices_insertionSortCmpFunc_Diagonal__i_compareDiagonals_L1 (((), (a, (b, ((), (w64 (a + 1)))))), data)) fun z0 =>
   (.ret ((), z0.2)))
  .fail)
noncomputable def slices_insertionSortCmpFunc_Diagonal__i_compareDiagonals (v : ((Unit × Int × Int × Unit) × List ((Int × Int)))) : Option (Unit × List ((Int × Int))) := (slices_insertionSortCmpFunc_Diagonal__i_compareDiagonals_t v).run
noncomputable def slices_insertionSortCmpFunc_Diagonal__i_compareDiagonals_E : TEnv := (E0.add1 n_i_compareDiagonals i_compareDiagonals_sh i_compareDiagonals_fo i_compareDiagonals)
theorem slices_insertionSortCmpFunc_Diagonal__i_compareDiagonals_Eok : (slices_insertionSortCmpFunc_Diagonal__i_compareDiagonals_E).OK := (E0ok.add1 i_compareDiagonals_ok)
noncomputable def slices_insertionSortCmpFunc_Diagonal__i_compareDiagonals_told : Nat → Option SealT := fun id => if id = 4 then some (LSh.told slices_insertionSortCmpFunc_Diagonal__i_compareDiagonals_L4_sh 1 (slices_insertionSortCmpFunc_Diagonal__i_compareDiagonals_L4_step)) else if id = 1 then some (LSh.told slices_insertionSortCmpFunc_Diagonal__i_compareDiagonals_L1_sh 1 (slices_insertionSortCmpFunc_Diagonal__i_compareDiagonals_L1_step)) else none
theorem slices_insertionSortCmpFunc_Diagonal__i_compareDiagonals_L4_ok : ToldOK Try.prog 1 (loopAt (bodyOf fn_slices_insertionSortCmpFunc_Diagonal) [0, 0]) (LSh.told slices_insertionSortCmpFunc_Diagonal__i_compareDiagonals_L4_sh 1 (slices_insertionSortCmpFunc_Diagonal__i_compareDiagonals_L4_step)) :=
  loop_ok (E := slices_insertionSortCmpFunc_Diagonal__i_compareDiagonals_E) (slices_insertionSortCmpFunc_Diagonal__i_compareDiagonals_Eok) (told := slices_insertionSortCmpFunc_Diagonal__i_compareDiagonals_told) (l := slices_insertionSortCmpFunc_Diagonal__i_compareDiagonals_L4_sh) (step := slices_insertionSortCmpFunc_Diagonal__i_compareDiagonals_L4_step) (loopsOK_of (ls := []) (by kernel_rfl) trivial) (by kernel_rfl) (fun v => by kernel_rfl)
theorem slices_insertionSortCmpFunc_Diagonal__i_compareDiagonals_L1_ok : ToldOK Try.prog 1 (loopAt (bodyOf fn_slices_insertionSortCmpFunc_Diagonal) [0]) (LSh.told slices_insertionSortCmpFunc_Diagonal__i_compareDiagonals_L1_sh 1 (slices_insertionSortCmpFunc_Diagonal__i_compareDiagonals_L1_step)) :=
  loop_ok (E := slices_insertionSortCmpFunc_Diagonal__i_compareDiagonals_E) (slices_insertionSortCmpFunc_Diagonal__i_compareDiagonals_Eok) (told := slices_insertionSortCmpFunc_Diagonal__i_compareDiagonals_told) (l := slices_insertionSortCmpFunc_Diagonal__i_compareDiagonals_L1_sh) (step := slices_insertionSortCmpFunc_Diagonal__i_compareDiagonals_L1_step) (loopsOK_of (ls := [loopAt (bodyOf fn_slices_insertionSortCmpFunc_Diagonal) [0, 0]]) (by kernel_rfl) ⟨.inr ⟨_, by kernel_rfl, slices_insertionSortCmpFunc_Diagonal__i_compareDiagonals_L4_ok⟩, trivial⟩) (by kernel_rfl) (fun v => by kernel_rfl)
theorem slices_insertionSortCmpFunc_Diagonal__i_compareDiagonals_ok : FOK Try.prog n_slices_insertionSortCmpFunc_Diagonal slices_insertionSortCmpFunc_Diagonal__i_compareDiagonals_sh slices_insertionSortCmpFunc_Diagonal__i_compareDiagonals_fo slices_insertionSortCmpFunc_Diagonal__i_compareDiagonals :=
  fn_ok (E := slices_insertionSortCmpFunc_Diagonal__i_compareDiagonals_E) (slices_insertionSortCmpFunc_Diagonal__i_compareDiagonals_Eok) (told := slices_insertionSortCmpFunc_Diagonal__i_compareDiagonals_told) (fl := []) (c := bodyOf fn_slices_insertionSortCmpFunc_Diagonal) (s := slices_insertionSortCmpFunc_Diagonal__i_compareDiagonals_sh) (l := slices_insertionSortCmpFunc_Diagonal__i_compareDiagonals_fo) (tree := slices_insertionSortCmpFunc_Diagonal__i_compareDiagonals_t) fnat_slices_insertionSortCmpFunc_Diagonal (by kernel_rfl) (by kernel_rfl) (by kernel_rfl) (loopsOK_of (ls := [loopAt (bodyOf fn_slices_insertionSortCmpFunc_Diagonal) [0]]) (by kernel_rfl) ⟨.inr ⟨_, by kernel_rfl, slices_insertionSortCmpFunc_Diagonal__i_compareDiagonals_L1_ok⟩, trivial⟩) (fun v => by kernel_rfl)

theorem slices_insertionSortCmpFunc_Diagonal__i_compareDiagonals_sink (b i : Int) : ∀ (j : Nat) (l : List Dg), j < l.length → l.length < 1000000 →
    slices_insertionSortCmpFunc_Diagonal__i_compareDiagonals_L4 (((), ((0 : Int), (b, ((), (i, (j : Int)))))), l) = some (((), ((0 : Int), (b, ((), i)))), sinkD j l)
  | 0, l, hj, hl => by
    simp only [slices_insertionSortCmpFunc_Diagonal__i_compareDiagonals_L4]
    exact loopO_done (by simp [slices_insertionSortCmpFunc_Diagonal__i_compareDiagonals_L4_step, T.run, sinkD])
  | j + 1, l, hj, hl => by
    have ih := slices_insertionSortCmpFunc_Diagonal__i_compareDiagonals_sink b i j (swapD l j) (by rw [swapD_length]; omega) (by rw [swapD_length]; omega)
    simp only [slices_insertionSortCmpFunc_Diagonal__i_compareDiagonals_L4] at ih ⊢
    have w1 : w64 (((j + 1 : Nat) : Int) - 1) = (j : Int) := by rw [w64_id (by omega) (by omega)]; omega
    have c0 : ((j + 1 : Nat) : Int) > 0 := by omega
    have c1 : (0 : Int) ≤ ((j + 1 : Nat) : Int) ∧ ((j + 1 : Nat) : Int) < (l.length : Int) := by omega
    have c2 : (0 : Int) ≤ (j : Int) ∧ (j : Int) < (l.length : Int) := by omega
    have g1 := gD_some hj
    have g2 := gD_some (show j < l.length by omega)
    cases hlt : ltD (gD l (j + 1)) (gD l j) with
    | false =>
      have e : sinkD (j + 1) l = l := by unfold sinkD; rw [hlt]; rfl
      rw [e]
      refine loopO_done ?_
      simp only [slices_insertionSortCmpFunc_Diagonal__i_compareDiagonals_L4_step, T.run, w1, c0, c1, c2, Int.toNat_natCast, Nat.zero_add, g1, g2, Option.bind_some, decide_true, if_true, i_compareDiagonals_eq, cmpD_lt, hlt, and_self]
      simp
    | true =>
      have e : sinkD (j + 1) l = sinkD j (swapD l j) := by conv => lhs; unfold sinkD
                                                           rw [hlt]; rfl
      rw [e, ← ih]
      refine loopO_next ?_
      have g3 : (l.set (j + 1) (gD l j))[j]? = some (gD l j) := by rw [List.getElem?_set_ne (by omega)]; exact g2
      simp only [slices_insertionSortCmpFunc_Diagonal__i_compareDiagonals_L4_step, T.run, w1, c0, c1, c2, Int.toNat_natCast, Nat.zero_add, g1, g2, g3, Option.bind_some, decide_true, if_true, i_compareDiagonals_eq, cmpD_lt, hlt, and_self]
      simp [swapD]
theorem slices_insertionSortCmpFunc_Diagonal__i_compareDiagonals_isort : ∀ (n i : Nat) (l : List Dg), i + n = l.length → l.length < 1000000 →
    slices_insertionSortCmpFunc_Diagonal__i_compareDiagonals_L1 (((), ((0 : Int), ((l.length : Int), ((), (i : Int))))), l) = some ((), isortD n i l)
  | 0, i, l, hi, hl => by
    simp only [slices_insertionSortCmpFunc_Diagonal__i_compareDiagonals_L1]
    refine loopO_done ?_
    have : ¬ ((i : Int) < (l.length : Int)) := by omega
    simp [slices_insertionSortCmpFunc_Diagonal__i_compareDiagonals_L1_step, T.run, this, isortD]
  | n + 1, i, l, hi, hl => by
    have ih := slices_insertionSortCmpFunc_Diagonal__i_compareDiagonals_isort n (i + 1) (sinkD i l) (by rw [sinkD_length]; omega) (by rw [sinkD_length]; omega)
    rw [sinkD_length] at ih
    simp only [slices_insertionSortCmpFunc_Diagonal__i_compareDiagonals_L1] at ih ⊢
    show _ = some ((), isortD n (i + 1) (sinkD i l))
    rw [← ih]
    refine loopO_next ?_
    have c0 : (i : Int) < (l.length : Int) := by omega
    have w1 : w64 ((i : Int) + 1) = ((i + 1 : Nat) : Int) := by rw [w64_id (by omega) (by omega)]; omega
    simp only [slices_insertionSortCmpFunc_Diagonal__i_compareDiagonals_L1_step, T.run, c0, decide_true, if_true, slices_insertionSortCmpFunc_Diagonal__i_compareDiagonals_sink _ _ i l (by omega) hl, Option.bind_some, w1, and_self]


def slices_pdqsortCmpFunc_Diagonal__i_compareDiagonals_sh : FSh := ⟨[(.one (.rw 0 0)), (.one (.si .i64)), (.one (.si .i64)), (.one (.si .i64)), (.one (.fn n_i_compareDiagonals))], [(.row 0 (.pair (.int .i64) (.int .i64)))]⟩

def slices_pdqsortCmpFunc_Diagonal__i_compareDiagonals_L2_sh : LSh := ⟨(fun ex => match ex with | .norm => [(0, none), (1, none), (2, none), (3, none), (4, none), (10, none), (11, none)] | .exit i => if i = 0 then [] else [] | .ret => []), [(0, (.one (.rw 0 0))), (1, (.one (.si .i64))), (2, (.one (.si .i64))), (3, (.one (.si .i64))), (4, (.one (.fn n_i_compareDiagonals))), (10, (.one .sb)), (11, (.one .sb))], [(.row 0 (.pair (.int .i64) (.int .i64)))], [⟨.ret, [], [(.row 0 (.pair (.int .i64) (.int .i64)))]⟩], [], []⟩
noncomputable def slices_pdqsortCmpFunc_Diagonal__i_compareDiagonals_L2_step : ((Unit × Int × Int × Int × Unit × Bool × Bool) × List ((Int × Int))) → T (((Unit × Int × Int × Int × Unit × Bool × Bool) × List ((Int × Int))) ⊕ (Unit × List ((Int × Int)))) := fun (((), a, b, limit, (), wasBalanced, wasPartitioned), data) =>
  (.test (decide ((w64 (b - a)) ≤ 12))
  (.test (decide ((0 = 0) ∧ ((List.length data) = (List.length data))))
   (.sub (slices_insertionSortCmpFunc_Diagonal__i_compareDiagonals (((), (a, (b, ()))), data)) fun z0 =>
    (.ret (Sum.inr ((), z0.2))))
   .fail)
  (.test (limit == 0)
   .fail
   (.test (! wasBalanced)
    .fail
    .fail)))
noncomputable def slices_pdqsortCmpFunc_Diagonal__i_compareDiagonals_L2 (v : ((Unit × Int × Int × Int × Unit × Bool × Bool) × List ((Int × Int)))) : Option (Unit × List ((Int × Int))) := loopO (fun v => (slices_pdqsortCmpFunc_Diagonal__i_compareDiagonals_L2_step v).run) v

def slices_pdqsortCmpFunc_Diagonal__i_compareDiagonals_fo : List FO := [⟨[], [(.row 0 (.pair (.int .i64) (.int .i64)))]⟩]
noncomputable def slices_pdqsortCmpFunc_Diagonal__i_compareDiagonals_t : ((Unit × Int × Int × Int × Unit) × List ((Int × Int))) → T (Unit × List ((Int × Int))) := fun (((), a, b, limit, ()), data) =>
  (.test (decide ((0 = 0) ∧ ((List.length data) = (List.length data))))
  (.sub (slices_pdqsortCmpFunc_Diagonal__i_compareDiagonals_L2 (((), (a, (b, (limit, ((), (true, true)))))), data)) fun z0 =>
   (.ret ((), z0.2)))
  .fail)
noncomputable def slices_pdqsortCmpFunc_Diagonal__i_compareDiagonals (v : ((Unit × Int × Int × Int × Unit) × List ((Int × Int)))) : Option (Unit × List ((Int × Int))) := (slices_pdqsortCmpFunc_Diagonal__i_compareDiagonals_t v).run
noncomputable def slices_pdqsortCmpFunc_Diagonal__i_compareDiagonals_E : TEnv := (E0.add1 n_slices_insertionSortCmpFunc_Diagonal slices_insertionSortCmpFunc_Diagonal__i_compareDiagonals_sh slices_insertionSortCmpFunc_Diagonal__i_compareDiagonals_fo slices_insertionSortCmpFunc_Diagonal__i_compareDiagonals)
theorem slices_pdqsortCmpFunc_Diagonal__i_compareDiagonals_Eok : (slices_pdqsortCmpFunc_Diagonal__i_compareDiagonals_E).OK := (E0ok.add1 slices_insertionSortCmpFunc_Diagonal__i_compareDiagonals_ok)
noncomputable def slices_pdqsortCmpFunc_Diagonal__i_compareDiagonals_told : Nat → Option SealT := fun id => if id = 2 then some (LSh.told slices_pdqsortCmpFunc_Diagonal__i_compareDiagonals_L2_sh 1 (slices_pdqsortCmpFunc_Diagonal__i_compareDiagonals_L2_step)) else none
theorem slices_pdqsortCmpFunc_Diagonal__i_compareDiagonals_L2_ok : ToldOK Try.prog 1 (loopAt (bodyOf fn_slices_pdqsortCmpFunc_Diagonal) [0]) (LSh.told slices_pdqsortCmpFunc_Diagonal__i_compareDiagonals_L2_sh 1 (slices_pdqsortCmpFunc_Diagonal__i_compareDiagonals_L2_step)) :=
  loop_ok (E := slices_pdqsortCmpFunc_Diagonal__i_compareDiagonals_E) (slices_pdqsortCmpFunc_Diagonal__i_compareDiagonals_Eok) (told := slices_pdqsortCmpFunc_Diagonal__i_compareDiagonals_told) (l := slices_pdqsortCmpFunc_Diagonal__i_compareDiagonals_L2_sh) (step := slices_pdqsortCmpFunc_Diagonal__i_compareDiagonals_L2_step) (loopsOK_of (ls := []) (by kernel_rfl) trivial) (by kernel_rfl) (fun v => by kernel_rfl)
theorem slices_pdqsortCmpFunc_Diagonal__i_compareDiagonals_ok : FOK Try.prog n_slices_pdqsortCmpFunc_Diagonal slices_pdqsortCmpFunc_Diagonal__i_compareDiagonals_sh slices_pdqsortCmpFunc_Diagonal__i_compareDiagonals_fo slices_pdqsortCmpFunc_Diagonal__i_compareDiagonals :=
  fn_ok (E := slices_pdqsortCmpFunc_Diagonal__i_compareDiagonals_E) (slices_pdqsortCmpFunc_Diagonal__i_compareDiagonals_Eok) (told := slices_pdqsortCmpFunc_Diagonal__i_compareDiagonals_told) (fl := []) (c := bodyOf fn_slices_pdqsortCmpFunc_Diagonal) (s := slices_pdqsortCmpFunc_Diagonal__i_compareDiagonals_sh) (l := slices_pdqsortCmpFunc_Diagonal__i_compareDiagonals_fo) (tree := slices_pdqsortCmpFunc_Diagonal__i_compareDiagonals_t) fnat_slices_pdqsortCmpFunc_Diagonal (by kernel_rfl) (by kernel_rfl) (by kernel_rfl) (loopsOK_of (ls := [loopAt (bodyOf fn_slices_pdqsortCmpFunc_Diagonal) [0]]) (by kernel_rfl) ⟨.inr ⟨_, by kernel_rfl, slices_pdqsortCmpFunc_Diagonal__i_compareDiagonals_L2_ok⟩, trivial⟩) (fun v => by kernel_rfl)

def slices_SortFunc_Diagonal__i_compareDiagonals_sh : FSh := ⟨[(.one (.rw 0 0)), (.one (.fn n_i_compareDiagonals))], [(.row 0 (.pair (.int .i64) (.int .i64)))]⟩

def slices_SortFunc_Diagonal__i_compareDiagonals_fo : List FO := [⟨[], [(.row 0 (.pair (.int .i64) (.int .i64)))]⟩]
noncomputable def slices_SortFunc_Diagonal__i_compareDiagonals_t : ((Unit × Unit) × List ((Int × Int))) → T (Unit × List ((Int × Int))) := fun (((), ()), x) =>
  (.sub (math_bits_Len (wu64 ((List.length x) : Int))) fun z0 =>
  (.test (decide ((0 = 0) ∧ ((List.length x) = (List.length x))))
  (.sub (slices_pdqsortCmpFunc_Diagonal__i_compareDiagonals (((), ((0 : Int), (((List.length x) : Int), (z0, ())))), x)) fun z1 =>
   (.ret ((), z1.2)))
  .fail))
noncomputable def slices_SortFunc_Diagonal__i_compareDiagonals (v : ((Unit × Unit) × List ((Int × Int)))) : Option (Unit × List ((Int × Int))) := (slices_SortFunc_Diagonal__i_compareDiagonals_t v).run
noncomputable def slices_SortFunc_Diagonal__i_compareDiagonals_E : TEnv := ((E0.add1 n_math_bits_Len math_bits_Len_sh math_bits_Len_fo math_bits_Len).add1 n_slices_pdqsortCmpFunc_Diagonal slices_pdqsortCmpFunc_Diagonal__i_compareDiagonals_sh slices_pdqsortCmpFunc_Diagonal__i_compareDiagonals_fo slices_pdqsortCmpFunc_Diagonal__i_compareDiagonals)
theorem slices_SortFunc_Diagonal__i_compareDiagonals_Eok : (slices_SortFunc_Diagonal__i_compareDiagonals_E).OK := ((E0ok.add1 math_bits_Len_ok).add1 slices_pdqsortCmpFunc_Diagonal__i_compareDiagonals_ok)
noncomputable def slices_SortFunc_Diagonal__i_compareDiagonals_told : Nat → Option SealT := fun id => none
theorem slices_SortFunc_Diagonal__i_compareDiagonals_ok : FOK Try.prog n_slices_SortFunc_Diagonal slices_SortFunc_Diagonal__i_compareDiagonals_sh slices_SortFunc_Diagonal__i_compareDiagonals_fo slices_SortFunc_Diagonal__i_compareDiagonals :=
  fn_ok (E := slices_SortFunc_Diagonal__i_compareDiagonals_E) (slices_SortFunc_Diagonal__i_compareDiagonals_Eok) (told := slices_SortFunc_Diagonal__i_compareDiagonals_told) (fl := []) (c := bodyOf fn_slices_SortFunc_Diagonal) (s := slices_SortFunc_Diagonal__i_compareDiagonals_sh) (l := slices_SortFunc_Diagonal__i_compareDiagonals_fo) (tree := slices_SortFunc_Diagonal__i_compareDiagonals_t) fnat_slices_SortFunc_Diagonal (by kernel_rfl) (by kernel_rfl) (by kernel_rfl) (loopsOK_of (ls := []) (by kernel_rfl) trivial) (fun v => by kernel_rfl)

theorem slices_SortFunc_Diagonal__i_compareDiagonals_eq (l : List Dg) (hl : l.length ≤ 12) : slices_SortFunc_Diagonal__i_compareDiagonals (((), ()), l) = some ((), sortD l) := by
  have hw : wu64 (l.length : Int) = (l.length : Int) := IntWalk.u64_in _ ⟨by omega, by omega⟩
  have hz : math_bits_Len (wu64 (l.length : Int)) = some (Lib.bitLen l.length : Int) := by
    rw [hw]; unfold math_bits_Len; rw [if_pos ⟨by omega, by omega⟩, Int.toNat_natCast]
  have w0 : w64 ((l.length : Int) - 0) = (l.length : Int) := by rw [w64_id (by omega) (by omega)]; omega
  have w1 : w64 ((0 : Int) + 1) = ((1 : Nat) : Int) := by rw [w64_id (by omega) (by omega)]; rfl
  have c0 : (l.length : Int) ≤ 12 := by omega
  have hins : slices_insertionSortCmpFunc_Diagonal__i_compareDiagonals (((), ((0 : Int), ((l.length : Int), ()))), l) = some ((), sortD l) := by
    simp only [slices_insertionSortCmpFunc_Diagonal__i_compareDiagonals, slices_insertionSortCmpFunc_Diagonal__i_compareDiagonals_t, T.run, w1]
    by_cases h0 : l.length = 0
    · have : l = [] := List.eq_nil_of_length_eq_zero h0
      subst this
      simp only [slices_insertionSortCmpFunc_Diagonal__i_compareDiagonals_L1]
      rw [loopO_done (o := ((), []))]
      · simp [sortD]
      · simp [slices_insertionSortCmpFunc_Diagonal__i_compareDiagonals_L1_step, T.run]
    · rw [slices_insertionSortCmpFunc_Diagonal__i_compareDiagonals_isort (l.length - 1) 1 l (by omega) (by omega), isortD_eq]
      simp
  simp only [slices_SortFunc_Diagonal__i_compareDiagonals, slices_SortFunc_Diagonal__i_compareDiagonals_t, T.run, hz, Option.bind_some, slices_pdqsortCmpFunc_Diagonal__i_compareDiagonals, slices_pdqsortCmpFunc_Diagonal__i_compareDiagonals_t, slices_pdqsortCmpFunc_Diagonal__i_compareDiagonals_L2]
  rw [loopO_done (o := ((), sortD l))]
  · simp
  · simp only [slices_pdqsortCmpFunc_Diagonal__i_compareDiagonals_L2_step, T.run, w0, c0, decide_true, if_true, hins, Option.bind_some]
    simp


def slices_Equal_int_sh : FSh := ⟨[(.one (.sl (.int .i64) false false)), (.one (.sl (.int .i64) false false))], []⟩

def slices_Equal_int_L4_sh : LSh := ⟨(fun ex => match ex with | .norm => [(0, none), (1, none), (12, none), (13, none)] | .exit i => if i = 0 then [] else [] | .ret => [(4, none)]), [(0, (.one (.sl (.int .i64) false false))), (1, (.one (.sl (.int .i64) false false))), (12, (.one (.si .i64))), (13, (.one (.si .i64)))], [], [⟨.ret, [(4, (.one .sb))], []⟩, ⟨(.exit 0), [], []⟩], [], []⟩
noncomputable def slices_Equal_int_L4_step : (List (Int) × List (Int) × Int × Int) → T ((List (Int) × List (Int) × Int × Int) ⊕ (Bool ⊕ Unit)) := fun (s1, s2, t12, t13) =>
  (.test (decide (t13 < t12))
  (.test (decide ((0 ≤ t13) ∧ (t13 < ((List.length s1) : Int))))
   (.sub (s1[(Int.toNat t13)]?) fun z0 =>
    (.test (decide ((0 ≤ t13) ∧ (t13 < ((List.length s2) : Int))))
    (.sub (s2[(Int.toNat t13)]?) fun z1 =>
     (.test (z0 != z1)
     (.ret (Sum.inr (Sum.inl false)))
     (.ret (Sum.inl (s1, (s2, (t12, (w64 (t13 + 1)))))))))
    .fail))
   .fail)
  (.ret (Sum.inr (Sum.inr ()))))
noncomputable def slices_Equal_int_L4 (v : (List (Int) × List (Int) × Int × Int)) : Option (Bool ⊕ Unit) := loopO (fun v => (slices_Equal_int_L4_step v).run) v

def slices_Equal_int_fo : List FO := [⟨[(.one .sb)], []⟩]
noncomputable def slices_Equal_int_t : (List (Int) × List (Int)) → T Bool := fun (s1, s2) =>
  (.test (((List.length s1) : Int) != ((List.length s2) : Int))
  (.ret false)
  (.sub (slices_Equal_int_L4 (s1, (s2, (((List.length s1) : Int), (0 : Int))))) fun z0 =>
   (.test (Sum.isLeft z0)
   (.sub (Sum.getLeft? z0) fun z1 =>
    (.ret z1))
   (.sub (Sum.getRight? z0) fun z2 =>
    (.ret true)))))
noncomputable def slices_Equal_int (v : (List (Int) × List (Int))) : Option Bool := (slices_Equal_int_t v).run
noncomputable def slices_Equal_int_E : TEnv := E0
theorem slices_Equal_int_Eok : (slices_Equal_int_E).OK := E0ok
noncomputable def slices_Equal_int_told : Nat → Option SealT := fun id => if id = 4 then some (LSh.told slices_Equal_int_L4_sh 0 (slices_Equal_int_L4_step)) else none
theorem slices_Equal_int_L4_ok : ToldOK Try.prog 0 (loopAt (bodyOf fn_slices_Equal_int) [0]) (LSh.told slices_Equal_int_L4_sh 0 (slices_Equal_int_L4_step)) :=
  loop_ok (E := slices_Equal_int_E) (slices_Equal_int_Eok) (told := slices_Equal_int_told) (l := slices_Equal_int_L4_sh) (step := slices_Equal_int_L4_step) (loopsOK_of (ls := []) (by kernel_rfl) trivial) (by kernel_rfl) (fun v => by kernel_rfl)
theorem slices_Equal_int_ok : FOK Try.prog n_slices_Equal_int slices_Equal_int_sh slices_Equal_int_fo slices_Equal_int :=
  fn_ok (E := slices_Equal_int_E) (slices_Equal_int_Eok) (told := slices_Equal_int_told) (fl := []) (c := bodyOf fn_slices_Equal_int) (s := slices_Equal_int_sh) (l := slices_Equal_int_fo) (tree := slices_Equal_int_t) fnat_slices_Equal_int (by kernel_rfl) (by kernel_rfl) (by kernel_rfl) (loopsOK_of (ls := [loopAt (bodyOf fn_slices_Equal_int) [0]]) (by kernel_rfl) ⟨.inr ⟨_, by kernel_rfl, slices_Equal_int_L4_ok⟩, trivial⟩) (fun v => by kernel_rfl)

theorem slices_Equal_int_eq (a b : List Int) (hl : a.length < 4611686018427387904) : slices_Equal_int (a, b) = some (decide (a = b)) := by
  simp only [slices_Equal_int, slices_Equal_int_t, T.run]
  by_cases he : a.length = b.length
  · have h := loop_any (step := fun v => (slices_Equal_int_L4_step v).run) (xs := a.zip b) (fun p => p.1 != p.2) (fun k => (a, (b, ((a.length : Int), (k : Int))))) (.inl false) (.inr ())
      (fun k x hx => by
        obtain ⟨x1, x2⟩ := x
        rw [List.getElem?_zip_eq_some] at hx
        obtain ⟨h1, h2⟩ := hx
        simp only at h1 h2
        have hk := getElem?_lt h1
        have hk2 := getElem?_lt h2
        have c0 : (k : Int) < (a.length : Int) := by omega
        have c1 : (0 : Int) ≤ (k : Int) ∧ (k : Int) < (a.length : Int) := by omega
        have c2 : (0 : Int) ≤ (k : Int) ∧ (k : Int) < (b.length : Int) := by omega
        have w1 : w64 ((k : Int) + 1) = ((k + 1 : Nat) : Int) := by rw [w64_id (by omega) (by omega)]; omega
        simp only [slices_Equal_int_L4_step, T.run, c0, c1, c2, decide_true, if_true, and_self, Int.toNat_natCast, h1, h2, Option.bind_some, w1]
        cases x1 != x2 <;> simp)
      (by simp [slices_Equal_int_L4_step, T.run, he])
    simp only [Int.natCast_zero] at h
    rw [zip_any_ne a b he] at h
    have hne : ((a.length : Int) != (b.length : Int)) = false := by simp [he]
    simp only [slices_Equal_int_L4, h, hne]
    by_cases hab : a = b <;> simp [hab]
  · have : a ≠ b := fun e => he (by rw [e])
    have hne : ((a.length : Int) != (b.length : Int)) = true := by simp; omega
    simp [hne, this]


def i_isDiagonal_sh : FSh := ⟨[(.one (.si .i64)), (.ag [(.si .i64), (.si .i64)])], []⟩

def i_isDiagonal_fo : List FO := [⟨[(.one .sb)], []⟩]
noncomputable def i_isDiagonal_t : (Int × (Int × Int)) → T Bool := fun (n, (d_0, d_1)) =>
  (.sub (i_within (d_0, ((0 : Int), (w64 (n - 1))))) fun z0 =>
  (.test z0
  (.sub (i_within (d_1, ((0 : Int), (w64 (n - 1))))) fun z1 =>
   (.test z1
   (.test (decide ((w64 (d_1 - d_0)) > 1))
    (.test (d_0 == 0)
     (.ret (! (d_1 == (w64 (n - 1)))))
     (.ret true))
    (.ret false))
   (.ret false)))
  (.ret false)))
noncomputable def i_isDiagonal (v : (Int × (Int × Int))) : Option Bool := (i_isDiagonal_t v).run
noncomputable def i_isDiagonal_E : TEnv := (E0.add1 n_i_within i_within_sh i_within_fo i_within)
theorem i_isDiagonal_Eok : (i_isDiagonal_E).OK := (E0ok.add1 i_within_ok)
noncomputable def i_isDiagonal_told : Nat → Option SealT := fun id => none
theorem i_isDiagonal_ok : FOK Try.prog n_i_isDiagonal i_isDiagonal_sh i_isDiagonal_fo i_isDiagonal :=
  fn_ok (E := i_isDiagonal_E) (i_isDiagonal_Eok) (told := i_isDiagonal_told) (fl := []) (c := bodyOf fn_i_isDiagonal) (s := i_isDiagonal_sh) (l := i_isDiagonal_fo) (tree := i_isDiagonal_t) fnat_i_isDiagonal (by kernel_rfl) (by kernel_rfl) (by kernel_rfl) (loopsOK_of (ls := []) (by kernel_rfl) trivial) (fun v => by kernel_rfl)

theorem i_isDiagonal_eq (n : Int) (d : Dg) (h1 : 0 ≤ n) (h2 : n ≤ 1000000) : i_isDiagonal (n, d) = some (inDg n d) := by
  obtain ⟨a, b⟩ := d
  have w1 : w64 (n - 1) = n - 1 := w64_id (by omega) (by omega)
  simp only [i_isDiagonal, i_isDiagonal_t, T.run, i_within_eq, Option.bind_some, w1, inDg]
  cases ha : inB 0 (n - 1) a with
  | false => simp
  | true =>
    cases hb : inB 0 (n - 1) b with
    | false => simp
    | true =>
      rw [inB_iff] at ha hb
      have w2 : w64 (b - a) = b - a := w64_id (by omega) (by omega)
      rw [w2]
      by_cases h4 : a = 0
      · subst h4
        rw [Int.sub_zero]
        by_cases h5 : b > 1 <;> simp [h5, beq_int]
      · by_cases h5 : b - a > 1 <;> simp [h5, h4]


def i_doCross_sh : FSh := ⟨[(.ag [(.si .i64), (.si .i64)]), (.ag [(.si .i64), (.si .i64)])], []⟩

def i_doCross_fo : List FO := [⟨[(.one .sb)], []⟩]
noncomputable def i_doCross_t : ((Int × Int) × (Int × Int)) → T Bool := fun ((d_0, d_1), (e_0, e_1)) =>
  (.test (decide (d_0 < e_0))
  (.test (decide (e_0 < d_1))
   (.test (decide (d_1 < e_1))
    (.ret true)
    (.test (decide (e_0 < d_0))
     (.test (decide (d_0 < e_1))
      (.ret (decide (e_1 < d_1)))
      (.ret false))
     (.ret false)))
   (.test (decide (e_0 < d_0))
    (.test (decide (d_0 < e_1))
     (.ret (decide (e_1 < d_1)))
     (.ret false))
    (.ret false)))
  (.test (decide (e_0 < d_0))
   (.test (decide (d_0 < e_1))
    (.ret (decide (e_1 < d_1)))
    (.ret false))
   (.ret false)))
noncomputable def i_doCross (v : ((Int × Int) × (Int × Int))) : Option Bool := (i_doCross_t v).run
noncomputable def i_doCross_E : TEnv := E0
theorem i_doCross_Eok : (i_doCross_E).OK := E0ok
noncomputable def i_doCross_told : Nat → Option SealT := fun id => none
theorem i_doCross_ok : FOK Try.prog n_i_doCross i_doCross_sh i_doCross_fo i_doCross :=
  fn_ok (E := i_doCross_E) (i_doCross_Eok) (told := i_doCross_told) (fl := []) (c := bodyOf fn_i_doCross) (s := i_doCross_sh) (l := i_doCross_fo) (tree := i_doCross_t) fnat_i_doCross (by kernel_rfl) (by kernel_rfl) (by kernel_rfl) (loopsOK_of (ls := []) (by kernel_rfl) trivial) (fun v => by kernel_rfl)

theorem i_doCross_eq (d e : Dg) : i_doCross (d, e) = some (crossD d e) := by
  obtain ⟨a, b⟩ := d
  obtain ⟨c, f⟩ := e
  simp only [i_doCross, i_doCross_t, T.run, crossD]
  by_cases h1 : a < c <;> by_cases h2 : c < b <;> by_cases h3 : b < f <;> by_cases h4 : c < a <;> by_cases h5 : a < f <;> by_cases h6 : f < b <;> simp [h1, h2, h3, h4, h5, h6]


def i_IsTriangulation_1_sh : FSh := ⟨[(.ag [(.si .i64), (.si .i64)]), (.one (.pf 0 0 0))], [(.rcd 0 [(.si .i64), (.si .i64)])]⟩

def i_IsTriangulation_1_fo : List FO := [⟨[(.one .sb)], [(.rcd 0 [(.si .i64), (.si .i64)])]⟩]
noncomputable def i_IsTriangulation_1_t : (((Int × Int) × Unit) × (Int × Int)) → T (Bool × (Int × Int)) := fun (((e_0, e_1), ()), (t1_0, t1_1)) =>
  (.sub (i_doCross ((t1_0, t1_1), (e_0, e_1))) fun z0 =>
  (.ret (z0, (t1_0, t1_1))))
noncomputable def i_IsTriangulation_1 (v : (((Int × Int) × Unit) × (Int × Int))) : Option (Bool × (Int × Int)) := (i_IsTriangulation_1_t v).run
noncomputable def i_IsTriangulation_1_E : TEnv := (E0.add1 n_i_doCross i_doCross_sh i_doCross_fo i_doCross)
theorem i_IsTriangulation_1_Eok : (i_IsTriangulation_1_E).OK := (E0ok.add1 i_doCross_ok)
noncomputable def i_IsTriangulation_1_told : Nat → Option SealT := fun id => none
theorem i_IsTriangulation_1_ok : FOK Try.prog n_i_IsTriangulation_1 i_IsTriangulation_1_sh i_IsTriangulation_1_fo i_IsTriangulation_1 :=
  fn_ok (E := i_IsTriangulation_1_E) (i_IsTriangulation_1_Eok) (told := i_IsTriangulation_1_told) (fl := []) (c := bodyOf fn_i_IsTriangulation_1) (s := i_IsTriangulation_1_sh) (l := i_IsTriangulation_1_fo) (tree := i_IsTriangulation_1_t) fnat_i_IsTriangulation_1 (by kernel_rfl) (by kernel_rfl) (by kernel_rfl) (loopsOK_of (ls := []) (by kernel_rfl) trivial) (fun v => by kernel_rfl)

def slices_IndexFunc_Diagonal__i_IsTriangulation_1_sh : FSh := ⟨[(.one (.sl (.pair (.int .i64) (.int .i64)) false false)), (.clo n_i_IsTriangulation_1 [(.one (.pf 0 0 0))])], [(.rcd 0 [(.si .i64), (.si .i64)])]⟩

def slices_IndexFunc_Diagonal__i_IsTriangulation_1_L2_sh : LSh := ⟨(fun ex => match ex with | .norm => [(0, none), (1, none), (7, none), (8, none)] | .exit i => if i = 0 then [] else [] | .ret => [(4, none)]), [(0, (.one (.sl (.pair (.int .i64) (.int .i64)) false false))), (1, (.clo n_i_IsTriangulation_1 [(.one (.pf 0 0 0))])), (7, (.one (.si .i64))), (8, (.one (.si .i64)))], [(.rcd 0 [(.si .i64), (.si .i64)])], [⟨.ret, [(4, (.one (.si .i64)))], [(.rcd 0 [(.si .i64), (.si .i64)])]⟩, ⟨(.exit 0), [], [(.rcd 0 [(.si .i64), (.si .i64)])]⟩], [], []⟩
noncomputable def slices_IndexFunc_Diagonal__i_IsTriangulation_1_L2_step : ((List ((Int × Int)) × Unit × Int × Int) × (Int × Int)) → T (((List ((Int × Int)) × Unit × Int × Int) × (Int × Int)) ⊕ ((Int × (Int × Int)) ⊕ (Unit × (Int × Int)))) := fun ((s, (), t7, t8), (r0_0, r0_1)) =>
  (.test (decide (t8 < t7))
  (.test (decide ((0 ≤ t8) ∧ (t8 < ((List.length s) : Int))))
   (.sub (s[(Int.toNat t8)]?) fun z0 =>
    (.sub (i_IsTriangulation_1 (((z0.1, z0.2), ()), (r0_0, r0_1))) fun z1 =>
    (.test z1.1
    (.ret (Sum.inr (Sum.inl (t8, (z1.2.1, z1.2.2)))))
    (.ret (Sum.inl ((s, ((), (t7, (w64 (t8 + 1))))), (z1.2.1, z1.2.2)))))))
   .fail)
  (.ret (Sum.inr (Sum.inr ((), (r0_0, r0_1))))))
noncomputable def slices_IndexFunc_Diagonal__i_IsTriangulation_1_L2 (v : ((List ((Int × Int)) × Unit × Int × Int) × (Int × Int))) : Option ((Int × (Int × Int)) ⊕ (Unit × (Int × Int))) := loopO (fun v => (slices_IndexFunc_Diagonal__i_IsTriangulation_1_L2_step v).run) v

def slices_IndexFunc_Diagonal__i_IsTriangulation_1_fo : List FO := [⟨[(.one (.si .i64))], [(.rcd 0 [(.si .i64), (.si .i64)])]⟩]
noncomputable def slices_IndexFunc_Diagonal__i_IsTriangulation_1_t : ((List ((Int × Int)) × Unit) × (Int × Int)) → T (Int × (Int × Int)) := fun ((s, ()), (r0_0, r0_1)) =>
  (.sub (slices_IndexFunc_Diagonal__i_IsTriangulation_1_L2 ((s, ((), (((List.length s) : Int), (0 : Int)))), (r0_0, r0_1))) fun z0 =>
  (.test (Sum.isLeft z0)
  (.sub (Sum.getLeft? z0) fun z1 =>
   (.ret (z1.1, (z1.2.1, z1.2.2))))
  (.sub (Sum.getRight? z0) fun z2 =>
   (.ret ((-1), (z2.2.1, z2.2.2))))))
noncomputable def slices_IndexFunc_Diagonal__i_IsTriangulation_1 (v : ((List ((Int × Int)) × Unit) × (Int × Int))) : Option (Int × (Int × Int)) := (slices_IndexFunc_Diagonal__i_IsTriangulation_1_t v).run
noncomputable def slices_IndexFunc_Diagonal__i_IsTriangulation_1_E : TEnv := (E0.add1 n_i_IsTriangulation_1 i_IsTriangulation_1_sh i_IsTriangulation_1_fo i_IsTriangulation_1)
theorem slices_IndexFunc_Diagonal__i_IsTriangulation_1_Eok : (slices_IndexFunc_Diagonal__i_IsTriangulation_1_E).OK := (E0ok.add1 i_IsTriangulation_1_ok)
noncomputable def slices_IndexFunc_Diagonal__i_IsTriangulation_1_told : Nat → Option SealT := fun id => if id = 2 then some (LSh.told slices_IndexFunc_Diagonal__i_IsTriangulation_1_L2_sh 1 (slices_IndexFunc_Diagonal__i_IsTriangulation_1_L2_step)) else none
theorem slices_IndexFunc_Diagonal__i_IsTriangulation_1_L2_ok : ToldOK Try.prog 1 (loopAt (bodyOf fn_slices_IndexFunc_Diagonal) [0]) (LSh.told slices_IndexFunc_Diagonal__i_IsTriangulation_1_L2_sh 1 (slices_IndexFunc_Diagonal__i_IsTriangulation_1_L2_step)) :=
  loop_ok (E := slices_IndexFunc_Diagonal__i_IsTriangulation_1_E) (slices_IndexFunc_Diagonal__i_IsTriangulation_1_Eok) (told := slices_IndexFunc_Diagonal__i_IsTriangulation_1_told) (l := slices_IndexFunc_Diagonal__i_IsTriangulation_1_L2_sh) (step := slices_IndexFunc_Diagonal__i_IsTriangulation_1_L2_step) (loopsOK_of (ls := []) (by kernel_rfl) trivial) (by kernel_rfl) (fun v => by kernel_rfl)
theorem slices_IndexFunc_Diagonal__i_IsTriangulation_1_ok : FOK Try.prog n_slices_IndexFunc_Diagonal slices_IndexFunc_Diagonal__i_IsTriangulation_1_sh slices_IndexFunc_Diagonal__i_IsTriangulation_1_fo slices_IndexFunc_Diagonal__i_IsTriangulation_1 :=
  fn_ok (E := slices_IndexFunc_Diagonal__i_IsTriangulation_1_E) (slices_IndexFunc_Diagonal__i_IsTriangulation_1_Eok) (told := slices_IndexFunc_Diagonal__i_IsTriangulation_1_told) (fl := []) (c := bodyOf fn_slices_IndexFunc_Diagonal) (s := slices_IndexFunc_Diagonal__i_IsTriangulation_1_sh) (l := slices_IndexFunc_Diagonal__i_IsTriangulation_1_fo) (tree := slices_IndexFunc_Diagonal__i_IsTriangulation_1_t) fnat_slices_IndexFunc_Diagonal (by kernel_rfl) (by kernel_rfl) (by kernel_rfl) (loopsOK_of (ls := [loopAt (bodyOf fn_slices_IndexFunc_Diagonal) [0]]) (by kernel_rfl) ⟨.inr ⟨_, by kernel_rfl, slices_IndexFunc_Diagonal__i_IsTriangulation_1_L2_ok⟩, trivial⟩) (fun v => by kernel_rfl)

def slices_ContainsFunc_Diagonal__i_IsTriangulation_1_sh : FSh := ⟨[(.one (.sl (.pair (.int .i64) (.int .i64)) false false)), (.clo n_i_IsTriangulation_1 [(.one (.pf 0 0 0))])], [(.rcd 0 [(.si .i64), (.si .i64)])]⟩

def slices_ContainsFunc_Diagonal__i_IsTriangulation_1_fo : List FO := [⟨[(.one .sb)], [(.rcd 0 [(.si .i64), (.si .i64)])]⟩]
noncomputable def slices_ContainsFunc_Diagonal__i_IsTriangulation_1_t : ((List ((Int × Int)) × Unit) × (Int × Int)) → T (Bool × (Int × Int)) := fun ((s, ()), (r0_0, r0_1)) =>
  (.sub (slices_IndexFunc_Diagonal__i_IsTriangulation_1 ((s, ()), (r0_0, r0_1))) fun z0 =>
  (.ret ((decide (z0.1 ≥ 0)), (z0.2.1, z0.2.2))))
noncomputable def slices_ContainsFunc_Diagonal__i_IsTriangulation_1 (v : ((List ((Int × Int)) × Unit) × (Int × Int))) : Option (Bool × (Int × Int)) := (slices_ContainsFunc_Diagonal__i_IsTriangulation_1_t v).run
noncomputable def slices_ContainsFunc_Diagonal__i_IsTriangulation_1_E : TEnv := (E0.add1 n_slices_IndexFunc_Diagonal slices_IndexFunc_Diagonal__i_IsTriangulation_1_sh slices_IndexFunc_Diagonal__i_IsTriangulation_1_fo slices_IndexFunc_Diagonal__i_IsTriangulation_1)
theorem slices_ContainsFunc_Diagonal__i_IsTriangulation_1_Eok : (slices_ContainsFunc_Diagonal__i_IsTriangulation_1_E).OK := (E0ok.add1 slices_IndexFunc_Diagonal__i_IsTriangulation_1_ok)
noncomputable def slices_ContainsFunc_Diagonal__i_IsTriangulation_1_told : Nat → Option SealT := fun id => none
theorem slices_ContainsFunc_Diagonal__i_IsTriangulation_1_ok : FOK Try.prog n_slices_ContainsFunc_Diagonal slices_ContainsFunc_Diagonal__i_IsTriangulation_1_sh slices_ContainsFunc_Diagonal__i_IsTriangulation_1_fo slices_ContainsFunc_Diagonal__i_IsTriangulation_1 :=
  fn_ok (E := slices_ContainsFunc_Diagonal__i_IsTriangulation_1_E) (slices_ContainsFunc_Diagonal__i_IsTriangulation_1_Eok) (told := slices_ContainsFunc_Diagonal__i_IsTriangulation_1_told) (fl := []) (c := bodyOf fn_slices_ContainsFunc_Diagonal) (s := slices_ContainsFunc_Diagonal__i_IsTriangulation_1_sh) (l := slices_ContainsFunc_Diagonal__i_IsTriangulation_1_fo) (tree := slices_ContainsFunc_Diagonal__i_IsTriangulation_1_t) fnat_slices_ContainsFunc_Diagonal (by kernel_rfl) (by kernel_rfl) (by kernel_rfl) (loopsOK_of (ls := []) (by kernel_rfl) trivial) (fun v => by kernel_rfl)

theorem slices_ContainsFunc_Diagonal__i_IsTriangulation_1_eq (s : List Dg) (d : Dg) (hl : s.length < 4611686018427387904) : slices_ContainsFunc_Diagonal__i_IsTriangulation_1 ((s, ()), d) = some (s.any (crossD d), d) := by
  obtain ⟨a, b⟩ := d
  have hc : ∀ e : Dg, i_IsTriangulation_1 ((e, ()), (a, b)) = some (crossD (a, b) e, (a, b)) := by
    intro e
    obtain ⟨e0, e1⟩ := e
    simp [i_IsTriangulation_1, i_IsTriangulation_1_t, T.run, i_doCross_eq]
  have h := loop_find (step := fun v => (slices_IndexFunc_Diagonal__i_IsTriangulation_1_L2_step v).run) (xs := s) (crossD (a, b)) (fun k => ((s, ((), ((s.length : Int), (k : Int)))), (a, b))) (fun k => .inl ((k : Int), (a, b))) (.inr ((), (a, b)))
    (fun k x hx => by
      have hlt := getElem?_lt hx
      have h1 : (k : Int) < (s.length : Int) := by omega
      have h2 : (0 : Int) ≤ k ∧ (k : Int) < (s.length : Int) := by omega
      simp only [slices_IndexFunc_Diagonal__i_IsTriangulation_1_L2_step, T.run, Int.toNat_natCast, hx, Option.bind_some, h1, h2, decide_true, if_true, and_self, hc]
      rw [w64_id (z := (k : Int) + 1) (by omega) (by omega)]
      cases hv : crossD (a, b) x <;> simp)
    (by simp [slices_IndexFunc_Diagonal__i_IsTriangulation_1_L2_step, T.run])
  rw [show ((0 : Nat) : Int) = 0 from rfl] at h
  have hi : slices_IndexFunc_Diagonal__i_IsTriangulation_1 ((s, ()), (a, b)) = some (idxI (crossD (a, b)) s, (a, b)) := by
    simp only [slices_IndexFunc_Diagonal__i_IsTriangulation_1, slices_IndexFunc_Diagonal__i_IsTriangulation_1_t, T.run, slices_IndexFunc_Diagonal__i_IsTriangulation_1_L2]
    rw [h]
    simp only [idxI]
    cases hf : s.findIdx? (crossD (a, b)) <;> simp [Sum.isLeft]
  simp only [slices_ContainsFunc_Diagonal__i_IsTriangulation_1, slices_ContainsFunc_Diagonal__i_IsTriangulation_1_t, T.run, hi, Option.bind_some, idxI_ge]


def i_IsTriangulation_sh : FSh := ⟨[(.one (.si .i64)), (.one (.sl (.pair (.int .i64) (.int .i64)) false false))], []⟩

def i_IsTriangulation_L4_sh : LSh := ⟨(fun ex => match ex with | .norm => [(0, none), (1, none), (17, none), (18, none), (19, none)] | .exit i => if i = 0 then [] else [] | .ret => [(4, none)]), [(0, (.one (.si .i64))), (1, (.one (.sl (.pair (.int .i64) (.int .i64)) false false))), (17, (.one (.sl (.pair (.int .i64) (.int .i64)) false false))), (18, (.one (.si .i64))), (19, (.one (.si .i64)))], [], [⟨.ret, [(4, (.one .sb))], []⟩, ⟨(.exit 0), [], []⟩], [], []⟩
noncomputable def i_IsTriangulation_L4_step : (Int × List ((Int × Int)) × List ((Int × Int)) × Int × Int) → T ((Int × List ((Int × Int)) × List ((Int × Int)) × Int × Int) ⊕ (Bool ⊕ Unit)) := fun (n, ds, t17, t18, t19) =>
  (.test (decide (t19 < t18))
  (.test (decide ((0 ≤ t19) ∧ (t19 < ((List.length t17) : Int))))
   (.sub (t17[(Int.toNat t19)]?) fun z0 =>
    (.sub (i_isDiagonal (n, (z0.1, z0.2))) fun z1 =>
    (.test (! z1)
    (.ret (Sum.inr (Sum.inl false)))
    (.test (decide (t19 > 0))
     (.test (decide ((0 ≤ (w64 (t19 - 1))) ∧ ((w64 (t19 - 1)) < ((List.length ds) : Int))))
      (.sub (ds[(Int.toNat (w64 (t19 - 1)))]?) fun z2 =>
       (.sub (i_compareDiagonals ((z2.1, z2.2), (z0.1, z0.2))) fun z3 =>
       (.test (decide (z3 ≥ 0))
       (.ret (Sum.inr (Sum.inl false)))
       (.test (decide (0 ≤ t19))
        (.test (decide ((0 ≤ (Int.toNat t19)) ∧ ((Int.toNat t19) ≤ (List.length ds))))
         (.sub (slices_ContainsFunc_Diagonal__i_IsTriangulation_1 (((win ds 0 ((Int.toNat t19) - 0)), ()), (z0.1, z0.2))) fun z4 =>
          (.test z4.1
          (.ret (Sum.inr (Sum.inl false)))
          (.ret (Sum.inl (n, (ds, (t17, (t18, (w64 (t19 + 1))))))))))
         .fail)
        .fail))))
      .fail)
     (.test (decide (0 ≤ t19))
      (.test (decide ((0 ≤ (Int.toNat t19)) ∧ ((Int.toNat t19) ≤ (List.length ds))))
       (.sub (slices_ContainsFunc_Diagonal__i_IsTriangulation_1 (((win ds 0 ((Int.toNat t19) - 0)), ()), (z0.1, z0.2))) fun z5 =>
        (.test z5.1
        (.ret (Sum.inr (Sum.inl false)))
        (.ret (Sum.inl (n, (ds, (t17, (t18, (w64 (t19 + 1))))))))))
       .fail)
      .fail)))))
   .fail)
  (.ret (Sum.inr (Sum.inr ()))))
noncomputable def i_IsTriangulation_L4 (v : (Int × List ((Int × Int)) × List ((Int × Int)) × Int × Int)) : Option (Bool ⊕ Unit) := loopO (fun v => (i_IsTriangulation_L4_step v).run) v

def i_IsTriangulation_fo : List FO := [⟨[(.one .sb)], []⟩]
noncomputable def i_IsTriangulation_t : (Int × List ((Int × Int))) → T Bool := fun (n, ds) =>
  (.sub (i_isPolygon n) fun z0 =>
  (.test (! z0)
  (.ret false)
  (.test (((List.length ds) : Int) != (w64 (n - 3)))
   (.ret false)
   (.sub (i_IsTriangulation_L4 (n, (ds, (ds, (((List.length ds) : Int), (0 : Int)))))) fun z1 =>
    (.test (Sum.isLeft z1)
    (.sub (Sum.getLeft? z1) fun z2 =>
     (.ret z2))
    (.sub (Sum.getRight? z1) fun z3 =>
     (.ret true)))))))
noncomputable def i_IsTriangulation (v : (Int × List ((Int × Int)))) : Option Bool := (i_IsTriangulation_t v).run
noncomputable def i_IsTriangulation_E : TEnv := ((((E0.add1 n_i_isPolygon i_isPolygon_sh i_isPolygon_fo i_isPolygon).add1 n_i_isDiagonal i_isDiagonal_sh i_isDiagonal_fo i_isDiagonal).add1 n_i_compareDiagonals i_compareDiagonals_sh i_compareDiagonals_fo i_compareDiagonals).add1 n_slices_ContainsFunc_Diagonal slices_ContainsFunc_Diagonal__i_IsTriangulation_1_sh slices_ContainsFunc_Diagonal__i_IsTriangulation_1_fo slices_ContainsFunc_Diagonal__i_IsTriangulation_1)
theorem i_IsTriangulation_Eok : (i_IsTriangulation_E).OK := ((((E0ok.add1 i_isPolygon_ok).add1 i_isDiagonal_ok).add1 i_compareDiagonals_ok).add1 slices_ContainsFunc_Diagonal__i_IsTriangulation_1_ok)
noncomputable def i_IsTriangulation_told : Nat → Option SealT := fun id => if id = 4 then some (LSh.told i_IsTriangulation_L4_sh 0 (i_IsTriangulation_L4_step)) else none
theorem i_IsTriangulation_L4_ok : ToldOK Try.prog 0 (loopAt (bodyOf fn_i_IsTriangulation) [0]) (LSh.told i_IsTriangulation_L4_sh 0 (i_IsTriangulation_L4_step)) :=
  loop_ok (E := i_IsTriangulation_E) (i_IsTriangulation_Eok) (told := i_IsTriangulation_told) (l := i_IsTriangulation_L4_sh) (step := i_IsTriangulation_L4_step) (loopsOK_of (ls := []) (by kernel_rfl) trivial) (by kernel_rfl) (fun v => by kernel_rfl)
theorem i_IsTriangulation_ok : FOK Try.prog n_i_IsTriangulation i_IsTriangulation_sh i_IsTriangulation_fo i_IsTriangulation :=
  fn_ok (E := i_IsTriangulation_E) (i_IsTriangulation_Eok) (told := i_IsTriangulation_told) (fl := []) (c := bodyOf fn_i_IsTriangulation) (s := i_IsTriangulation_sh) (l := i_IsTriangulation_fo) (tree := i_IsTriangulation_t) fnat_i_IsTriangulation (by kernel_rfl) (by kernel_rfl) (by kernel_rfl) (loopsOK_of (ls := [loopAt (bodyOf fn_i_IsTriangulation) [0]]) (by kernel_rfl) ⟨.inr ⟨_, by kernel_rfl, i_IsTriangulation_L4_ok⟩, trivial⟩) (fun v => by kernel_rfl)

theorem i_IsTriangulation_eq (n : Int) (ds : List Dg) (hl : ds.length < 4611686018427387904) : i_IsTriangulation (n, ds) = some (isTri n ds) := by
  simp only [i_IsTriangulation, i_IsTriangulation_t, T.run, i_isPolygon, i_isPolygon_t, i_within_eq, Option.bind_some, isTri]
  cases hn : inB 3 12 n with
  | false => simp
  | true =>
    rw [inB_iff] at hn
    rw [w64_id (z := n - 3) (by omega) (by omega)]
    by_cases he : (ds.length : Int) = n - 3
    · have h := loop_any (step := fun v => (i_IsTriangulation_L4_step v).run) (xs := List.range ds.length) (badT n ds) (fun k => (n, (ds, (ds, ((ds.length : Int), (k : Int)))))) (.inl false) (.inr ())
        (fun k x hx => by
          obtain ⟨hk, e⟩ := List.getElem?_eq_some_iff.1 hx
          simp only [List.getElem_range] at e
          subst e
          rw [List.length_range] at hk
          have g0 := gD_some hk
          have c0 : (k : Int) < (ds.length : Int) := by omega
          have c1 : (0 : Int) ≤ (k : Int) ∧ (k : Int) < (ds.length : Int) := by omega
          have w1 : w64 ((k : Int) + 1) = ((k + 1 : Nat) : Int) := by rw [w64_id (by omega) (by omega)]; omega
          have c2 : 0 ≤ k ∧ k ≤ ds.length := by omega
          have c3 : (0 : Int) ≤ (k : Int) := by omega
          have tw : win ds 0 (k - 0) = ds.take k := win_take _ _
          have hlt : (ds.take k).length < 4611686018427387904 := by simp; omega
          simp only [i_IsTriangulation_L4_step, T.run, c0, c1, c2, c3, decide_true, if_true, and_self, Int.toNat_natCast, g0, Option.bind_some, i_isDiagonal_eq n (gD ds k) (by omega) (by omega), tw, slices_ContainsFunc_Diagonal__i_IsTriangulation_1_eq _ (gD ds k) hlt, w1, badT]
          rcases Bool.eq_false_or_eq_true (inDg n (gD ds k)) with hd | hd
          rotate_left
          · simp [hd]
          · simp only [hd]
            by_cases hk0 : 0 < k
            · have w2 : w64 ((k : Int) - 1) = ((k - 1 : Nat) : Int) := by rw [w64_id (by omega) (by omega)]; omega
              have c4 : (0 : Int) ≤ ((k - 1 : Nat) : Int) ∧ ((k - 1 : Nat) : Int) < (ds.length : Int) := by omega
              have g1 := gD_some (show k - 1 < ds.length by omega)
              have c5 : (k : Int) > 0 := by omega
              simp only [w2, c4, c5, decide_true, if_true, and_self, Int.toNat_natCast, g1, Option.bind_some, i_compareDiagonals_eq, cmpD_ge, hk0]
              cases ltD (gD ds (k - 1)) (gD ds k) <;> simp
              cases (ds.take k).any (crossD (gD ds k)) <;> simp
            · have c5 : ¬ (k : Int) > 0 := by omega
              simp only [c5, decide_false, hk0, if_false]
              cases (ds.take k).any (crossD (gD ds k)) <;> simp)
        (by simp [i_IsTriangulation_L4_step, T.run])
      rw [show ((0 : Nat) : Int) = 0 from rfl] at h
      have he' : ((ds.length : Int) != n - 3) = false := by simp [he]
      simp only [i_IsTriangulation_L4, h, he', decide_eq_true he]
      cases (List.range ds.length).any (badT n ds) <;> simp
    · simp [he]


def math_bits_Mul_sh : FSh := ⟨[.one (.si .u64), .one (.si .u64)], []⟩
def math_bits_Mul_fo : List FO := [⟨[.one (.si .u64), .one (.si .u64)], []⟩]
def math_bits_Mul (v : Int × Int) : Option (Int × Int) := if 0 ≤ v.1 ∧ v.1 < 18446744073709551616 ∧ 0 ≤ v.2 ∧ v.2 < 18446744073709551616 then some (((v.1.toNat * v.2.toNat / 18446744073709551616 : Nat) : Int), ((v.1.toNat * v.2.toNat % 18446744073709551616 : Nat) : Int)) else none
def math_bits_Mul_ren : Shelf.Ren := ⟨fun k => if k = 212 then n_math_bits_Mul else if k = 263 then 147 else 148, fun t => if t = 46 then 98 else if t = 51 then 118 else if t = 146 then 136 else if t = 148 then 138 else 120, fun x => x⟩
theorem math_bits_Mul_lay : Lays.n212 Try.prog math_bits_Mul_ren :=
  { mixed := by kernel_rfl, f212 := by kernel_rfl, f263 := by kernel_rfl, f264 := by kernel_rfl, t46 := by kernel_rfl, a46 := fun w => by kernel_rfl, z46 := fun w => by kernel_rfl, v46 := fun w => by kernel_rfl, t51 := by kernel_rfl, a51 := fun w => by kernel_rfl, z51 := fun w => by kernel_rfl, v51 := fun w => by kernel_rfl, t53 := by kernel_rfl, a53 := fun w => by kernel_rfl, z53 := fun w => by kernel_rfl, v53 := fun w => by kernel_rfl, t146 := by kernel_rfl, a146 := fun w => by kernel_rfl, z146 := fun w => by kernel_rfl, v146 := fun w => by kernel_rfl, t148 := by kernel_rfl, a148 := fun w => by kernel_rfl, z148 := fun w => by kernel_rfl, v148 := fun w => by kernel_rfl }
theorem math_bits_Mul_ok : FOK Try.prog n_math_bits_Mul math_bits_Mul_sh math_bits_Mul_fo math_bits_Mul :=
  bitsMul_ok ⟨_, fnat_math_bits_Mul, by kernel_rfl, by kernel_rfl⟩ (ρr := math_bits_Mul_ren) rfl math_bits_Mul_lay

end Go.Proofs.W
