/- Contracts of the smallest functions of the program and of the reference. No condition. -/
import Derived.Test.YtaidpalamhmghaaDoorTab
import Derived.Test.YtaidpalamhmghaaDoorRow
import Derived.Test.YtaidpalamhmghaaDoorTrees
import Derived.Test.YtaidpalamhmghaaDoorExt
namespace Go.Proofs.YtaidpalamhmghaaDoor.X
open Go.Proofs
set_option maxRecDepth 100000
set_option linter.unusedVariables false
set_option linter.unusedSimpArgs false
def i64 (n : Int) : V := .c (.int .i64 n)
def vb (b : Bool) : V := .c (.bool b)

/-! ### Rows -/
abbrev Tx := List UInt8
abbrev Mv := Int × Int
abbrev Cl := Int × Int × Int
def mvC (m : Mv) : List C := [.int .i64 m.1, .int .i64 m.2]
def mvE (l : List Mv) : List (List C) := l.map mvC
theorem mvE_len (l : List Mv) : (mvE l).length = l.length := by simp [mvE]
theorem mvE_get {l : List Mv} {k : Nat} (h : k < l.length) : (mvE l)[k]? = some (mvC l[k]) := by simp [mvE, h]
theorem mvE_append (l l' : List Mv) : mvE (l ++ l') = mvE l ++ mvE l' := by simp [mvE]
def strE (l : List Tx) : List (List C) := l.map fun s => [.str s]
theorem strE_len (l : List Tx) : (strE l).length = l.length := by simp [strE]
theorem strE_get {l : List Tx} {k : Nat} (h : k < l.length) : (strE l)[k]? = some [.str l[k]] := by simp [strE, h]
theorem strE_append (l l' : List Tx) : strE (l ++ l') = strE l ++ strE l' := by simp [strE]
def intE (l : List Int) : List (List C) := l.map fun n => [.int .i64 n]
theorem intE_len (l : List Int) : (intE l).length = l.length := by simp [intE]
theorem intE_get {l : List Int} {k : Nat} (h : k < l.length) : (intE l)[k]? = some [.int .i64 l[k]] := by simp [intE, h]
theorem intE_append (l l' : List Int) : intE (l ++ l') = intE l ++ intE l' := by simp [intE]
def clC (c : Cl) : List C := [.int .i64 c.1, .int .i64 c.2.1, .int .i64 c.2.2]
def esC (l : List Cl) : List (List C) := l.map clC
theorem esC_len (l : List Cl) : (esC l).length = l.length := by simp [esC]
theorem get_esC {l : List Cl} {k : Nat} (h : k < l.length) : (esC l)[k]? = some (clC l[k]) := by simp [esC, h]

theorem l1In_spec (n lo hi : Int) : Spec Tryd.prog 84 [i64 n, i64 lo, i64 hi] [] (isRes [vb (decide (lo ≤ n ∧ n ≤ hi))] []) := by
  refine Spec.of_wpx tt_ok Tryd.func84 (by kernel_rfl) rfl ?_
  (repeat' ((conv => whnf); first | refine CondVC.t ?_ | refine CondVC.f ?_ | refine CondVC.dec (fun h => ?_) (fun h => ?_) | refine CondVC.ndec (fun h => ?_) (fun h => ?_) | refine CondVC.mk (fun h => ?_) (fun h => ?_) | refine ArVC.i64 (by first | omega | (simp only; omega)) ?_ | refine SideVC.mk (by first | omega | decide | (simp only; omega) | (simp [slS]; done) | (simp [slS]; omega) | (simp only [byteE_len, mvE_len, strE_len, intE_len, esC_len, List.length_cons, List.length_nil, List.length_append, List.length_replicate, List.length_set, Int.toNat_natCast, and_true] at *; omega)) ?_ | refine LoopN.go ?_ | exact trivial | refine AltVC.mk ?_ ?_ | refine HeldVC.mk rfl ?_ | refine OpVC.more tt_ok ?_ | refine RestVC.ext tt_ok ?_)); all_goals (conv => whnf)
  all_goals exact RetVC.res (by simp [vb, *]) rfl

theorem within_spec (n lo hi : Int) : Spec Tryd.prog 108 [i64 n, i64 lo, i64 hi] [] (isRes [vb (decide (lo ≤ n ∧ n ≤ hi))] []) := by
  refine Spec.of_wpx tt_ok Tryd.func108 (by kernel_rfl) rfl ?_
  (repeat' ((conv => whnf); first | refine CondVC.t ?_ | refine CondVC.f ?_ | refine CondVC.dec (fun h => ?_) (fun h => ?_) | refine CondVC.ndec (fun h => ?_) (fun h => ?_) | refine CondVC.mk (fun h => ?_) (fun h => ?_) | refine ArVC.i64 (by first | omega | (simp only; omega)) ?_ | refine SideVC.mk (by first | omega | decide | (simp only; omega) | (simp [slS]; done) | (simp [slS]; omega) | (simp only [byteE_len, mvE_len, strE_len, intE_len, esC_len, List.length_cons, List.length_nil, List.length_append, List.length_replicate, List.length_set, Int.toNat_natCast, and_true] at *; omega)) ?_ | refine LoopN.go ?_ | exact trivial | refine AltVC.mk ?_ ?_ | refine HeldVC.mk rfl ?_ | refine OpVC.more tt_ok ?_ | refine RestVC.ext tt_ok ?_)); all_goals (conv => whnf)
  all_goals exact RetVC.res (by simp [vb, *]) rfl

end Go.Proofs.YtaidpalamhmghaaDoor.X
