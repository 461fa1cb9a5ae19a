/- First and last lines; how many there are of each. No condition beyond each statement's. -/
import Derived.Test.YtaidpalamhmghaaDoorBoard
import Derived.Test.YtaidpalamhmghaaDoorSwapF
import Derived.Test.YtaidpalamhmghaaDoorWord
namespace Go.Proofs.YtaidpalamhmghaaDoor.X
open Go.Proofs
set_option maxRecDepth 100000
set_option linter.unusedVariables false
set_option linter.unusedSimpArgs false

theorem implCount_spec (w : Tx) : Spec Tryd.prog 127 [.c (.str w)] [] (isRes [i64 (w.count 84 : Nat), i64 (w.count 46 : Nat), i64 (w.count 70 : Nat)] []) := by
  have h1 := count_spec1 w 84
  have h2 := count_spec1 w 46
  have h3 := count_spec1 w 70
  refine Spec.of_wpx tt_ok Tryd.func127 (by kernel_rfl) rfl ?_
  (repeat' ((conv => whnf); first | refine CondVC.t ?_ | refine CondVC.f ?_ | refine CondVC.dec (fun h => ?_) (fun h => ?_) | refine CondVC.ndec (fun h => ?_) (fun h => ?_) | refine CondVC.mk (fun h => ?_) (fun h => ?_) | refine ArVC.i64 (by first | omega | (simp only; omega)) ?_ | refine SideVC.mk (by first | omega | decide | (simp only; omega) | (simp [slS]; done) | (simp [slS]; omega) | (simp only [byteE_len, mvE_len, strE_len, intE_len, esC_len, List.length_cons, List.length_nil, List.length_append, List.length_replicate, List.length_set, Int.toNat_natCast, and_true] at *; omega)) ?_ | refine LoopN.go ?_ | exact trivial | refine AltVC.mk ?_ ?_ | refine HeldVC.mk rfl ?_ | refine CallVC.pure h1 rfl ?_ | refine CallVC.pure h2 rfl ?_ | refine CallVC.pure h3 rfl ?_ | refine OpVC.more tt_ok ?_ | refine RestVC.ext tt_ok ?_)); all_goals (conv => whnf)
  all_goals exact RetVC.res rfl rfl
theorem liLast_spec (w : Tx) (hw : w.length ≤ 100) : Spec Tryd.prog 128 [.c (.str w)] [] (isRes [.c (.str (lastF w))] []) := by
  have hc := count3_le w
  have c1 := liCount_spec w 70 (by omega)
  have c2 := liCount_spec w 46 (by omega)
  have c3 := liCount_spec w 84 (by omega)
  have h1 := liTimes_spec [70] (w.count 70) (by simp) (by omega)
  have h2 := liTimes_spec [46] (w.count 46) (by simp) (by omega)
  have h3 := liTimes_spec [84] (w.count 84) (by simp) (by omega)
  have l1 := rep_len [70] (w.count 70)
  have l2 := rep_len [46] (w.count 46)
  have l3 := rep_len [84] (w.count 84)
  simp only [List.length_cons, List.length_nil, Nat.zero_add, Nat.mul_one] at l1 l2 l3
  unfold lastF
  generalize rep [70] (w.count 70) = a at *
  generalize rep [46] (w.count 46) = b at *
  generalize rep [84] (w.count 84) = c at *
  generalize w.count 70 = x at *
  generalize w.count 46 = y at *
  generalize w.count 84 = z at *
  refine Spec.of_wpx tt_ok Tryd.func128 (by kernel_rfl) rfl ?_
  (repeat' ((conv => whnf); first | refine CondVC.t ?_ | refine CondVC.f ?_ | refine CondVC.dec (fun h => ?_) (fun h => ?_) | refine CondVC.ndec (fun h => ?_) (fun h => ?_) | refine CondVC.mk (fun h => ?_) (fun h => ?_) | refine ArVC.i64 (by first | omega | (simp only; omega)) ?_ | refine SideVC.mk (by first | omega | decide | (simp only; omega) | (simp [slS]; done) | (simp [slS]; omega) | (simp only [byteE_len, mvE_len, strE_len, intE_len, esC_len, List.length_cons, List.length_nil, List.length_append, List.length_replicate, List.length_set, Int.toNat_natCast, and_true] at *; omega)) ?_ | refine LoopN.go ?_ | exact trivial | refine AltVC.mk ?_ ?_ | refine HeldVC.mk rfl ?_ | refine CallVC.pure c1 rfl ?_ | refine CallVC.pure c2 rfl ?_ | refine CallVC.pure c3 rfl ?_ | refine CallVC.pure h1 rfl ?_ | refine CallVC.pure h2 rfl ?_ | refine CallVC.pure h3 rfl ?_ | refine SideVC.mk (by simp at *; omega) ?_ | refine OpVC.more tt_ok ?_ | refine RestVC.ext tt_ok ?_)); all_goals (conv => whnf)
  all_goals exact RetVC.res rfl rfl

/-! ### Numbers -/
def numsF (x y z n : Int) : Bool := decide ((0 ≤ x ∧ x ≤ n) ∧ (0 ≤ y ∧ y ≤ n) ∧ (0 ≤ z ∧ z ≤ n) ∧ 1 ≤ x + y + z ∧ x + y + z ≤ n)
theorem nums_cast {x y z n : Int} (h : numsF x y z n = true) : ∃ a b c : Nat, x = a ∧ y = b ∧ z = c ∧ 1 ≤ a + b + c ∧ ((a + b + c : Nat) : Int) ≤ n := by
  simp only [numsF, decide_eq_true_eq] at h
  exact ⟨x.toNat, y.toNat, z.toNat, by omega, by omega, by omega, by omega, by omega⟩
theorem all3 (x y z lo hi : Int) : ([x, y, z].all fun n => decide (lo ≤ n ∧ n ≤ hi)) = decide ((lo ≤ x ∧ x ≤ hi) ∧ (lo ≤ y ∧ y ≤ hi) ∧ (lo ≤ z ∧ z ≤ hi)) := by
  rw [Bool.eq_iff_iff]; simp
end Go.Proofs.YtaidpalamhmghaaDoor.X
