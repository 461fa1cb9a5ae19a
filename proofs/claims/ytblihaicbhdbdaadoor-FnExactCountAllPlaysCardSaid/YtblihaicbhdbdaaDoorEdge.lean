/- First and last lines; how many there are of each. No condition beyond each statement's. -/
import Derived.Test.YtblihaicbhdbdaaDoorBoard
import Derived.Test.YtblihaicbhdbdaaDoorSwapF
import Derived.Test.YtblihaicbhdbdaaDoorWord
namespace Go.Proofs.YtblihaicbhdbdaaDoor.X
open Go.Proofs
set_option maxRecDepth 100000
set_option linter.unusedVariables false
set_option linter.unusedSimpArgs false


/-! ### Numbers -/
def numsF (x y z n : Int) : Bool := decide ((0 ≤ x ∧ x ≤ n) ∧ (0 ≤ y ∧ y ≤ n) ∧ (0 ≤ z ∧ z ≤ n) ∧ 1 ≤ x + y + z ∧ x + y + z ≤ n)
theorem nums_cast {x y z n : Int} (h : numsF x y z n = true) : ∃ a b c : Nat, x = a ∧ y = b ∧ z = c ∧ 1 ≤ a + b + c ∧ ((a + b + c : Nat) : Int) ≤ n := by
  simp only [numsF, decide_eq_true_eq] at h
  exact ⟨x.toNat, y.toNat, z.toNat, by omega, by omega, by omega, by omega, by omega⟩
theorem all3 (x y z lo hi : Int) : ([x, y, z].all fun n => decide (lo ≤ n ∧ n ≤ hi)) = decide ((lo ≤ x ∧ x ≤ hi) ∧ (lo ≤ y ∧ y ≤ hi) ∧ (lo ≤ z ∧ z ≤ hi)) := by
  rw [Bool.eq_iff_iff]; simp
end Go.Proofs.YtblihaicbhdbdaaDoor.X
