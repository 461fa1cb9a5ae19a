/- Contracts of the smallest functions of the program and of the reference. No condition. -/
import Derived.Test.YtglikiknonmogaaTab
import Derived.Test.YtglikiknonmogaaRow
namespace Go.Proofs.Ytglikiknonmogaa.X
open Go.Proofs
set_option maxRecDepth 100000
set_option linter.unusedVariables false
set_option linter.unusedSimpArgs false
def i64 (n : Int) : V := .c (.int .i64 n)
def vb (b : Bool) : V := .c (.bool b)

theorem l1In_spec (n lo hi : Int) : Spec Try.prog 46 [i64 n, i64 lo, i64 hi] [] (isRes [vb (decide (lo ≤ n ∧ n ≤ hi))] []) := by
  refine Spec.of_wpx tt_ok Try.func46 (by kernel_rfl) rfl ?_
  (repeat' ((conv => whnf); first | refine CondVC.t ?_ | refine CondVC.f ?_ | refine CondVC.dec (fun h => ?_) (fun h => ?_) | refine CondVC.ndec (fun h => ?_) (fun h => ?_) | refine ArVC.i64 (by omega) ?_ | refine SideVC.mk (by omega) ?_)); all_goals (conv => whnf)
  all_goals exact RetVC.res (by simp [vb, *]) rfl

theorem within_spec (n lo hi : Int) : Spec Try.prog 34 [i64 n, i64 lo, i64 hi] [] (isRes [vb (decide (lo ≤ n ∧ n ≤ hi))] []) := by
  refine Spec.of_wpx tt_ok Try.func34 (by kernel_rfl) rfl ?_
  (repeat' ((conv => whnf); first | refine CondVC.t ?_ | refine CondVC.f ?_ | refine CondVC.dec (fun h => ?_) (fun h => ?_) | refine CondVC.ndec (fun h => ?_) (fun h => ?_) | refine ArVC.i64 (by omega) ?_ | refine SideVC.mk (by omega) ?_)); all_goals (conv => whnf)
  all_goals exact RetVC.res (by simp [vb, *]) rfl

end Go.Proofs.Ytglikiknonmogaa.X
