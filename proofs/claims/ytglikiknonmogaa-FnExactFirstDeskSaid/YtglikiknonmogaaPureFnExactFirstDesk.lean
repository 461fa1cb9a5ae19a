/- The program's FirstDesk and the reference's FirstDesk return the same desk, whatever is given: there is no argument and no condition. -/
import Derived.Test.YtglikiknonmogaaPFnExactFirstDeskx1
namespace Go.Proofs.Ytglikiknonmogaa.Pure
open Go.RowKit Go.Proofs.Ytglikiknonmogaa.PFnExactFirstDesk Go.Proofs.YtglikiknonmogaaW.PrintWords Go.Proofs.YtglikiknonmogaaW.PrintLast

theorem FnExactFirstDesk : laws_FnExactFirstDesk.Pure := by
  unfold laws_FnExactFirstDesk.Pure laws_FnExactFirstDesk.f spec_FirstDesk.f impl_FirstDesk.f laws_eqDesk.f
  simp

end Go.Proofs.Ytglikiknonmogaa.Pure
