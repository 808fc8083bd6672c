/- FnExactFirstDesk: the program's FirstDesk returns what the reference returns, for all arguments. -/
import Derived.Test.YtlicdnpbkijhjaaPFnExactFirstDeskx1
namespace Go.Proofs.Ytlicdnpbkijhjaa.Pure
open Go.RowKit Go.Proofs.Ytlicdnpbkijhjaa.PFnExactFirstDesk Go.Proofs.YtlicdnpbkijhjaaW.PrintWords Go.Proofs.YtlicdnpbkijhjaaW.PrintLast

/-- YOURS: ∃ k, laws_FnExactFirstDesk.f k  = some true
What it reaches (each with k first where it has rounds; `.mono`: more rounds tell the same; `.l0`, ..: its loops, with `.mono_l`): spec_FirstDesk.f, impl_FirstDesk.f, laws_eqIntS.f, laws_eqDesk.f, laws_markIntS.f, laws_markDesk.f, laws_heldIntS.f, laws_heldDesk.f, laws_FnExactFirstDesk.f -/
theorem FnExactFirstDesk : laws_FnExactFirstDesk.Pure := by
  exact ⟨30, by decide +kernel⟩

end Go.Proofs.Ytlicdnpbkijhjaa.Pure
