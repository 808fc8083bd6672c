import Derived.Test.YtpkbjabnchfgjaaGreatDoorWMx1
namespace Go.Proofs.W
open Go Go.Gm
set_option linter.unusedVariables false
def isPz (l : List Int) : Bool := inB 3 9 l.length && l.all (inB 0 (l.length - 2))
def gaps (l : List Int) : Int := (l.countP (· == 0) : Nat)
theorem z2r (l : List Int) (c : Int) : l.foldl (fun c x => if x == 0 then c + 1 else c) c = c + gaps l := by
 induction l generalizing c with
 | nil => simp [gaps]
 | cons x t ih =>
  simp only [List.foldl_cons, ih, gaps, List.countP_cons]
  cases x == 0 <;> simp <;> omega
def cf (sign : Int) (p : Int × Int) (a : Int) : Int × Int := (p.2, a * p.2 + sign * p.1)
def z1z (sign : Int) (l : List Int) : Int × Int := l.foldl (cf sign) (0, 1)
def cont (sign : Int) (l : List Int) : Int := (z1z sign l).2
theorem zvs (sign : Int) (l : List Int) (a : Int) : z1z sign (l ++ [a]) = cf sign (z1z sign l) a := by simp [z1z]
abbrev M4 := Int × Int × Int × Int
def mul4 (m k : M4) : M4 := (m.1 * k.1 + m.2.1 * k.2.2.1, m.1 * k.2.1 + m.2.1 * k.2.2.2, m.2.2.1 * k.1 + m.2.2.2 * k.2.2.1, m.2.2.1 * k.2.1 + m.2.2.2 * k.2.2.2)
def one4 : M4 := (1, 0, 0, 1)
def mOf (l : List Int) : M4 :=
 match l with
 | [] => one4
 | _ :: t => (cont (-1) l, -(z1z (-1) l).1, cont (-1) t, -(z1z (-1) t).1)
theorem za01 (l : List Int) (a : Int) : mOf (l ++ [a]) = mul4 (mOf l) (a, -1, 1, 0) := by
 cases l with
 | nil => simp [mOf, mul4, one4, cont, z1z, cf]
 | cons b t =>
  simp only [List.cons_append, mOf, cont]
  rw [show b :: (t ++ [a]) = (b :: t) ++ [a] from rfl, zvs, zvs]
  simp only [cf, mul4, qr]
  refine ⟨?_, ?_, ?_, ?_⟩ <;> simp [Int.mul_comm]
end Go.Proofs.W
