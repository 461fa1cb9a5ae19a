/- Clues: the program's IsClue and the reference's give the same, for all arguments. No condition beyond the statement's. -/
import Derived.Test.YtaidpalamhmghaaDoorBase
namespace Go.Proofs.YtaidpalamhmghaaDoor.X
open Go.Proofs
set_option maxRecDepth 100000
set_option linter.unusedVariables false
set_option linter.unusedSimpArgs false
def clueV (k a b : Int) : V := .agg [.int .i64 k, .int .i64 a, .int .i64 b]

def pzClueF (cells k a b : Int) : Bool :=
  if k = 0 then decide (0 ≤ a ∧ a ≤ cells - 1) && decide (0 ≤ b ∧ b ≤ 2)
  else if b ≠ 0 then false
  else if k = 1 ∨ k = 2 then decide (0 ≤ a ∧ a ≤ cells)
  else if k = 3 then decide (0 ≤ a ∧ a ≤ 2 * cells)
  else if k = 4 then decide (0 ≤ a ∧ a ≤ 10)
  else if k = 5 then decide (0 ≤ a ∧ a ≤ 3)
  else false

def isClueF (cells k a b : Int) : Bool := decide (1 ≤ cells ∧ cells ≤ 5) && pzClueF cells k a b

theorem pzClue_spec (cells k a b : Int) (hc : 0 ≤ cells ∧ cells ≤ 100) : Spec Tryd.prog 136 [i64 cells, clueV k a b] [] (isRes [vb (pzClueF cells k a b)] []) := by
  refine Spec.of_wpx tt_ok Tryd.func136 (by kernel_rfl) rfl ?_
  (repeat' ((conv => whnf); first | refine CondVC.t ?_ | refine CondVC.f ?_ | refine CondVC.dec (fun h => ?_) (fun h => ?_) | refine CondVC.ndec (fun h => ?_) (fun h => ?_) | refine CondVC.mk (fun h => ?_) (fun h => ?_) | refine ArVC.i64 (by first | omega | (simp only; omega)) ?_ | refine SideVC.mk (by first | omega | decide | (simp only; omega) | (simp [slS]; done) | (simp [slS]; omega) | (simp only [byteE_len, mvE_len, strE_len, intE_len, esC_len, List.length_cons, List.length_nil, List.length_append, List.length_replicate, List.length_set, Int.toNat_natCast, and_true] at *; omega)) ?_ | refine LoopN.go ?_ | exact trivial | refine AltVC.mk ?_ ?_ | refine HeldVC.mk rfl ?_ | refine CallVC.pure (l1In_spec _ _ _) rfl ?_ | refine OpVC.more tt_ok ?_ | refine RestVC.ext tt_ok ?_)); all_goals (conv => whnf)
  all_goals exact RetVC.res (by simp [vb, pzClueF, *]) rfl

theorem pzCells_spec (n : Int) : Spec Tryd.prog 135 [i64 n] [] (isRes [vb (decide (1 ≤ n ∧ n ≤ 5))] []) := by
  refine Spec.of_wpx tt_ok Tryd.func135 (by kernel_rfl) rfl ?_
  (repeat' ((conv => whnf); first | refine CondVC.t ?_ | refine CondVC.f ?_ | refine CondVC.dec (fun h => ?_) (fun h => ?_) | refine CondVC.ndec (fun h => ?_) (fun h => ?_) | refine CondVC.mk (fun h => ?_) (fun h => ?_) | refine ArVC.i64 (by first | omega | (simp only; omega)) ?_ | refine SideVC.mk (by first | omega | decide | (simp only; omega) | (simp [slS]; done) | (simp [slS]; omega) | (simp only [byteE_len, mvE_len, strE_len, intE_len, esC_len, List.length_cons, List.length_nil, List.length_append, List.length_replicate, List.length_set, Int.toNat_natCast, and_true] at *; omega)) ?_ | refine LoopN.go ?_ | exact trivial | refine AltVC.mk ?_ ?_ | refine HeldVC.mk rfl ?_ | refine CallVC.pure (l1In_spec _ _ _) rfl ?_ | refine OpVC.more tt_ok ?_ | refine RestVC.ext tt_ok ?_)); all_goals (conv => whnf)
  all_goals exact RetVC.res rfl rfl


theorem implIsClue_spec (n k a b : Int) : Spec Tryd.prog 111 [i64 n, clueV k a b] [] (isRes [vb (isClueF n k a b)] []) := by
  refine Spec.of_wpx tt_ok Tryd.func111 (by kernel_rfl) rfl ?_
  (repeat' ((conv => whnf); first | refine CondVC.t ?_ | refine CondVC.f ?_ | refine CondVC.dec (fun h => ?_) (fun h => ?_) | refine CondVC.ndec (fun h => ?_) (fun h => ?_) | refine CondVC.mk (fun h => ?_) (fun h => ?_) | refine ArVC.i64 (by first | omega | (simp only; omega)) ?_ | refine SideVC.mk (by first | omega | decide | (simp only; omega) | (simp [slS]; done) | (simp [slS]; omega) | (simp only [byteE_len, mvE_len, strE_len, intE_len, esC_len, List.length_cons, List.length_nil, List.length_append, List.length_replicate, List.length_set, Int.toNat_natCast, and_true] at *; omega)) ?_ | refine LoopN.go ?_ | exact trivial | refine AltVC.mk ?_ ?_ | refine HeldVC.mk rfl ?_ | refine CallVC.pure (within_spec _ _ _) rfl ?_ | refine OpVC.more tt_ok ?_ | refine RestVC.ext tt_ok ?_)); all_goals (conv => whnf)
  all_goals exact RetVC.res (by simp [vb, isClueF, pzClueF, *]) rfl


end Go.Proofs.YtaidpalamhmghaaDoor.X
