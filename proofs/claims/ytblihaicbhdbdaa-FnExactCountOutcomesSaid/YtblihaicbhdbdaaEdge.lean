/- First and last lines; how many there are of each. No condition beyond each statement's. -/
import Derived.Test.YtblihaicbhdbdaaBoard
import Derived.Test.YtblihaicbhdbdaaSwapF
import Derived.Test.YtblihaicbhdbdaaWord
namespace Go.Proofs.Ytblihaicbhdbdaa.X
open Go.Proofs
set_option maxRecDepth 100000
set_option linter.unusedVariables false
set_option linter.unusedSimpArgs false

theorem implCount_spec (w : Tx) : Spec Try.prog 74 [.c (.str w)] [] (isRes [i64 (w.count 84 : Nat), i64 (w.count 46 : Nat), i64 (w.count 70 : Nat)] []) := by
  have h1 := count_spec1 w 84
  have h2 := count_spec1 w 46
  have h3 := count_spec1 w 70
  refine Spec.of_wpx tt_ok Try.func74 (by kernel_rfl) rfl ?_
  (repeat' ((conv => whnf); first | refine CondVC.t ?_ | refine CondVC.f ?_ | refine CondVC.dec (fun h => ?_) (fun h => ?_) | refine CondVC.ndec (fun h => ?_) (fun h => ?_) | refine CondVC.mk (fun h => ?_) (fun h => ?_) | refine ArVC.i64 (by first | omega | (simp only; omega)) ?_ | refine SideVC.mk (by first | omega | decide | (simp only; omega) | (simp [slS]; done) | (simp [slS]; omega) | (simp only [byteE_len, mvE_len, strE_len, intE_len, esC_len, List.length_cons, List.length_nil, List.length_append, List.length_replicate, List.length_set, Int.toNat_natCast, and_true] at *; omega)) ?_ | refine LoopN.go ?_ | exact trivial | refine AltVC.mk ?_ ?_ | refine HeldVC.mk rfl ?_ | refine CallVC.pure h1 rfl ?_ | refine CallVC.pure h2 rfl ?_ | refine CallVC.pure h3 rfl ?_ | refine OpVC.more tt_ok ?_ | refine RestVC.ext tt_ok ?_)); all_goals (conv => whnf)
  all_goals exact RetVC.res rfl rfl
theorem orderedB_spec (x y z : Nat) (hx : x ≤ 100) (hy : y ≤ 100) (hz : z ≤ 100) :
    Spec Try.prog 69 [.c (.int .u8 70), i64 x, i64 y, .c (.int .u8 84), i64 z] [] (isRes [.c (.str (rep [70] x ++ rep [46] y ++ rep [84] z))] []) := by
  have h1 := rep_spec [70] x (by simp) (by omega)
  have h2 := rep_spec [46] y (by simp) (by omega)
  have h3 := rep_spec [84] z (by simp) (by omega)
  have l1 := rep_len [70] x
  have l2 := rep_len [46] y
  have l3 := rep_len [84] z
  simp only [List.length_cons, List.length_nil, Nat.zero_add, Nat.mul_one] at l1 l2 l3
  generalize rep [70] x = a at *
  generalize rep [46] y = b at *
  generalize rep [84] z = c at *
  rw [← enc70] at h1
  rw [← enc84] at h3
  refine Spec.of_wpx tt_ok Try.func69 (by kernel_rfl) rfl ?_
  (repeat' ((conv => whnf); first | refine CondVC.t ?_ | refine CondVC.f ?_ | refine CondVC.dec (fun h => ?_) (fun h => ?_) | refine CondVC.ndec (fun h => ?_) (fun h => ?_) | refine CondVC.mk (fun h => ?_) (fun h => ?_) | refine ArVC.i64 (by first | omega | (simp only; omega)) ?_ | refine SideVC.mk (by first | omega | decide | (simp only; omega) | (simp [slS]; done) | (simp [slS]; omega) | (simp only [byteE_len, mvE_len, strE_len, intE_len, esC_len, List.length_cons, List.length_nil, List.length_append, List.length_replicate, List.length_set, Int.toNat_natCast, and_true] at *; omega)) ?_ | refine LoopN.go ?_ | exact trivial | refine AltVC.mk ?_ ?_ | refine HeldVC.mk rfl ?_ | refine CallVC.pure h1 rfl ?_ | refine CallVC.pure h2 rfl ?_ | refine CallVC.pure h3 rfl ?_ | refine SideVC.mk (by simp at *; omega) ?_ | refine OpVC.more tt_ok ?_ | refine RestVC.ext tt_ok ?_)); all_goals (conv => whnf)
  all_goals exact RetVC.res rfl rfl
theorem implLast_spec (w : Tx) (hw : w.length ≤ 100) : Spec Try.prog 38 [.c (.str w)] [] (isRes [.c (.str (lastF w))] []) := by
  have hc := count3_le w
  have h1 := implCount_spec w
  have h2 := orderedB_spec (w.count 70) (w.count 46) (w.count 84) (by omega) (by omega) (by omega)
  unfold lastF
  generalize rep [70] (w.count 70) ++ rep [46] (w.count 46) ++ rep [84] (w.count 84) = a at *
  generalize w.count 70 = x at *
  generalize w.count 46 = y at *
  generalize w.count 84 = z at *
  refine Spec.of_wpx tt_ok Try.func38 (by kernel_rfl) rfl ?_
  (repeat' ((conv => whnf); first | refine CondVC.t ?_ | refine CondVC.f ?_ | refine CondVC.dec (fun h => ?_) (fun h => ?_) | refine CondVC.ndec (fun h => ?_) (fun h => ?_) | refine CondVC.mk (fun h => ?_) (fun h => ?_) | refine ArVC.i64 (by first | omega | (simp only; omega)) ?_ | refine SideVC.mk (by first | omega | decide | (simp only; omega) | (simp [slS]; done) | (simp [slS]; omega) | (simp only [byteE_len, mvE_len, strE_len, intE_len, esC_len, List.length_cons, List.length_nil, List.length_append, List.length_replicate, List.length_set, Int.toNat_natCast, and_true] at *; omega)) ?_ | refine LoopN.go ?_ | exact trivial | refine AltVC.mk ?_ ?_ | refine HeldVC.mk rfl ?_ | refine CallVC.pure h1 rfl ?_ | refine CallVC.pure h2 rfl ?_ | refine OpVC.more tt_ok ?_ | refine RestVC.ext tt_ok ?_)); all_goals (conv => whnf)
  all_goals exact RetVC.res rfl rfl
theorem implFirst_spec (x y z : Nat) (hx : x ≤ 100) (hy : y ≤ 100) (hz : z ≤ 100) : Spec Try.prog 36 [i64 x, i64 y, i64 z] [] (isRes [.c (.str (firstF x y z))] []) := first_spec x y z hx hy hz
theorem liFirst_spec (x y z : Nat) (hx : x ≤ 100) (hy : y ≤ 100) (hz : z ≤ 100) : Spec Try.prog 32 [i64 x, i64 y, i64 z] [] (isRes [.c (.str (firstF x y z))] []) := by
  have h1 := liTimes_spec [84] x (by simp) (by omega)
  have h2 := liTimes_spec [46] y (by simp) (by omega)
  have h3 := liTimes_spec [70] z (by simp) (by omega)
  have l1 := rep_len [84] x
  have l2 := rep_len [46] y
  have l3 := rep_len [70] z
  simp only [List.length_cons, List.length_nil, Nat.zero_add, Nat.mul_one] at l1 l2 l3
  unfold firstF
  generalize rep [84] x = a at *
  generalize rep [46] y = b at *
  generalize rep [70] z = c at *
  refine Spec.of_wpx tt_ok Try.func32 (by kernel_rfl) rfl ?_
  (repeat' ((conv => whnf); first | refine CondVC.t ?_ | refine CondVC.f ?_ | refine CondVC.dec (fun h => ?_) (fun h => ?_) | refine CondVC.ndec (fun h => ?_) (fun h => ?_) | refine CondVC.mk (fun h => ?_) (fun h => ?_) | refine ArVC.i64 (by first | omega | (simp only; omega)) ?_ | refine SideVC.mk (by first | omega | decide | (simp only; omega) | (simp [slS]; done) | (simp [slS]; omega) | (simp only [byteE_len, mvE_len, strE_len, intE_len, esC_len, List.length_cons, List.length_nil, List.length_append, List.length_replicate, List.length_set, Int.toNat_natCast, and_true] at *; omega)) ?_ | refine LoopN.go ?_ | exact trivial | refine AltVC.mk ?_ ?_ | refine HeldVC.mk rfl ?_ | refine CallVC.pure h1 rfl ?_ | refine CallVC.pure h2 rfl ?_ | refine CallVC.pure h3 rfl ?_ | refine SideVC.mk (by simp at *; omega) ?_ | refine OpVC.more tt_ok ?_ | refine RestVC.ext tt_ok ?_)); all_goals (conv => whnf)
  all_goals exact RetVC.res rfl rfl
theorem liLast_spec (w : Tx) (hw : w.length ≤ 100) : Spec Try.prog 34 [.c (.str w)] [] (isRes [.c (.str (lastF w))] []) := by
  have hc := count3_le w
  have c1 := liCount_spec w 70 (by omega)
  have c2 := liCount_spec w 46 (by omega)
  have c3 := liCount_spec w 84 (by omega)
  have h1 := liTimes_spec [70] (w.count 70) (by simp) (by omega)
  have h2 := liTimes_spec [46] (w.count 46) (by simp) (by omega)
  have h3 := liTimes_spec [84] (w.count 84) (by simp) (by omega)
  have l1 := rep_len [70] (w.count 70)
  have l2 := rep_len [46] (w.count 46)
  have l3 := rep_len [84] (w.count 84)
  simp only [List.length_cons, List.length_nil, Nat.zero_add, Nat.mul_one] at l1 l2 l3
  unfold lastF
  generalize rep [70] (w.count 70) = a at *
  generalize rep [46] (w.count 46) = b at *
  generalize rep [84] (w.count 84) = c at *
  generalize w.count 70 = x at *
  generalize w.count 46 = y at *
  generalize w.count 84 = z at *
  refine Spec.of_wpx tt_ok Try.func34 (by kernel_rfl) rfl ?_
  (repeat' ((conv => whnf); first | refine CondVC.t ?_ | refine CondVC.f ?_ | refine CondVC.dec (fun h => ?_) (fun h => ?_) | refine CondVC.ndec (fun h => ?_) (fun h => ?_) | refine CondVC.mk (fun h => ?_) (fun h => ?_) | refine ArVC.i64 (by first | omega | (simp only; omega)) ?_ | refine SideVC.mk (by first | omega | decide | (simp only; omega) | (simp [slS]; done) | (simp [slS]; omega) | (simp only [byteE_len, mvE_len, strE_len, intE_len, esC_len, List.length_cons, List.length_nil, List.length_append, List.length_replicate, List.length_set, Int.toNat_natCast, and_true] at *; omega)) ?_ | refine LoopN.go ?_ | exact trivial | refine AltVC.mk ?_ ?_ | refine HeldVC.mk rfl ?_ | refine CallVC.pure c1 rfl ?_ | refine CallVC.pure c2 rfl ?_ | refine CallVC.pure c3 rfl ?_ | refine CallVC.pure h1 rfl ?_ | refine CallVC.pure h2 rfl ?_ | refine CallVC.pure h3 rfl ?_ | refine SideVC.mk (by simp at *; omega) ?_ | refine OpVC.more tt_ok ?_ | refine RestVC.ext tt_ok ?_)); all_goals (conv => whnf)
  all_goals exact RetVC.res rfl rfl

/-! ### Numbers -/
def numsF (x y z n : Int) : Bool := decide ((0 ≤ x ∧ x ≤ n) ∧ (0 ≤ y ∧ y ≤ n) ∧ (0 ≤ z ∧ z ≤ n) ∧ 1 ≤ x + y + z ∧ x + y + z ≤ n)
theorem nums_cast {x y z n : Int} (h : numsF x y z n = true) : ∃ a b c : Nat, x = a ∧ y = b ∧ z = c ∧ 1 ≤ a + b + c ∧ ((a + b + c : Nat) : Int) ≤ n := by
  simp only [numsF, decide_eq_true_eq] at h
  exact ⟨x.toNat, y.toNat, z.toNat, by omega, by omega, by omega, by omega, by omega⟩
theorem l1All_spec (l : List Int) (lo hi : Int) (hl : l.length ≤ 1000000) : Spec Try.prog 60 [.c (.sl 1000), i64 lo, i64 hi] [(1000, .sl 3 1 (intE l))]
    (isRes [vb (l.all fun n => decide (lo ≤ n ∧ n ≤ hi))] [(1000, .sl 3 1 (intE l))]) := by
  have hml := intE_len l
  refine Spec.of_wpx tt_ok Try.func60 (by kernel_rfl) rfl ?_
  (repeat' ((conv => whnf); first | refine CondVC.t ?_ | refine CondVC.f ?_ | refine CondVC.dec (fun h => ?_) (fun h => ?_) | refine CondVC.ndec (fun h => ?_) (fun h => ?_) | refine CondVC.mk (fun h => ?_) (fun h => ?_) | refine ArVC.i64 (by first | omega | (simp only; omega)) ?_ | refine SideVC.mk (by first | omega | decide | (simp only; omega) | (simp [slS]; done) | (simp [slS]; omega) | (simp only [byteE_len, mvE_len, strE_len, intE_len, esC_len, List.length_cons, List.length_nil, List.length_append, List.length_replicate, List.length_set, Int.toNat_natCast, and_true] at *; omega)) ?_ | refine LoopN.go ?_ | exact trivial | refine AltVC.mk ?_ ?_ | refine HeldVC.mk rfl ?_ | refine OpVC.more tt_ok ?_ | refine RestVC.ext tt_ok ?_)); all_goals (conv => whnf)
  refine LoopVC.mk (G := Nat) (fun k => ⟨[(11, .v (i64 k)), (10, .v (i64 l.length)), (9, .v (.c (.sl 1000))), (2, .v (i64 hi)), (1, .v (i64 lo))], [(1000, .sl 3 1 (intE l))]⟩)
    (fun k => k ≤ l.length ∧ ∀ j (hj : j < l.length), j < k → lo ≤ l[j] ∧ l[j] ≤ hi) (fun k => l.length - k) 0 ⟨by omega, fun j hj h => by omega⟩ (Sub.mk [] _ ⟨rfl, by rw [hml]; rfl, rfl, rfl, rfl, trivial⟩ rfl rfl) ?_
  intro k ⟨hk, hall⟩
  by_cases hlt : k < l.length
  · have g1 : (intE l)[(k : Int).toNat]? = some [.int .i64 l[k]] := by rw [Int.toNat_natCast]; exact intE_get hlt
    have h1 := l1In_spec l[k] lo hi
    by_cases hin : lo ≤ l[k] ∧ l[k] ≤ hi
    · rw [decide_eq_true hin] at h1
      (repeat' ((conv => whnf); first | refine CondVC.t ?_ | refine CondVC.f ?_ | refine CondVC.dec (fun h => ?_) (fun h => ?_) | refine CondVC.ndec (fun h => ?_) (fun h => ?_) | refine CondVC.mk (fun h => ?_) (fun h => ?_) | refine ArVC.i64 (by first | omega | (simp only; omega)) ?_ | refine SideVC.mk (by first | omega | decide | (simp only; omega) | (simp [slS]; done) | (simp [slS]; omega) | (simp only [byteE_len, mvE_len, strE_len, intE_len, esC_len, List.length_cons, List.length_nil, List.length_append, List.length_replicate, List.length_set, Int.toNat_natCast, and_true] at *; omega)) ?_ | refine LoopN.go ?_ | exact trivial | refine AltVC.mk ?_ ?_ | refine HeldVC.mk rfl ?_ | refine LoadVC.mk _ g1 ?_ | refine SideVC.mk (by rw [hml]; omega) ?_ | refine CallVC.pure h1 rfl ?_ | refine OpVC.more tt_ok ?_ | refine RestVC.ext tt_ok ?_)); all_goals (conv => whnf)
      all_goals first
        | (exfalso; omega)
        | exact ⟨k + 1, ⟨by omega, fun j hj h => by
            by_cases e : j = k
            · subst e; exact hin
            · exact hall j hj (by omega)⟩, by omega, Sub.mk [] _ ⟨rfl, rfl, rfl, rfl, rfl, trivial⟩ rfl rfl⟩
    · rw [decide_eq_false hin] at h1
      have hf : (l.all fun n => decide (lo ≤ n ∧ n ≤ hi)) = false := by
        rw [List.all_eq_false]; exact ⟨_, List.getElem_mem hlt, by simpa using hin⟩
      (repeat' ((conv => whnf); first | refine CondVC.t ?_ | refine CondVC.f ?_ | refine CondVC.dec (fun h => ?_) (fun h => ?_) | refine CondVC.ndec (fun h => ?_) (fun h => ?_) | refine CondVC.mk (fun h => ?_) (fun h => ?_) | refine ArVC.i64 (by first | omega | (simp only; omega)) ?_ | refine SideVC.mk (by first | omega | decide | (simp only; omega) | (simp [slS]; done) | (simp [slS]; omega) | (simp only [byteE_len, mvE_len, strE_len, intE_len, esC_len, List.length_cons, List.length_nil, List.length_append, List.length_replicate, List.length_set, Int.toNat_natCast, and_true] at *; omega)) ?_ | refine LoopN.go ?_ | exact trivial | refine AltVC.mk ?_ ?_ | refine HeldVC.mk rfl ?_ | refine LoadVC.mk _ g1 ?_ | refine SideVC.mk (by rw [hml]; omega) ?_ | refine CallVC.pure h1 rfl ?_ | refine OpVC.more tt_ok ?_ | refine RestVC.ext tt_ok ?_)); all_goals (conv => whnf)
      all_goals first
        | (exfalso; omega)
        | exact RetVC.res (by rw [hf]; rfl) rfl
  · have hf : (l.all fun n => decide (lo ≤ n ∧ n ≤ hi)) = true := by
      rw [List.all_eq_true]; intro x hx
      obtain ⟨j, hj, rfl⟩ := List.getElem_of_mem hx
      simpa using hall j hj (by omega)
    (repeat' ((conv => whnf); first | refine CondVC.t ?_ | refine CondVC.f ?_ | refine CondVC.dec (fun h => ?_) (fun h => ?_) | refine CondVC.ndec (fun h => ?_) (fun h => ?_) | refine CondVC.mk (fun h => ?_) (fun h => ?_) | refine ArVC.i64 (by first | omega | (simp only; omega)) ?_ | refine SideVC.mk (by first | omega | decide | (simp only; omega) | (simp [slS]; done) | (simp [slS]; omega) | (simp only [byteE_len, mvE_len, strE_len, intE_len, esC_len, List.length_cons, List.length_nil, List.length_append, List.length_replicate, List.length_set, Int.toNat_natCast, and_true] at *; omega)) ?_ | refine LoopN.go ?_ | exact trivial | refine AltVC.mk ?_ ?_ | refine HeldVC.mk rfl ?_ | refine OpVC.more tt_ok ?_ | refine RestVC.ext tt_ok ?_)); all_goals (conv => whnf)
    all_goals first
      | (exfalso; omega)
      | exact RetVC.res (by rw [hf]; rfl) rfl
theorem all3 (x y z lo hi : Int) : ([x, y, z].all fun n => decide (lo ≤ n ∧ n ≤ hi)) = decide ((lo ≤ x ∧ x ≤ hi) ∧ (lo ≤ y ∧ y ≤ hi) ∧ (lo ≤ z ∧ z ≤ hi)) := by
  rw [Bool.eq_iff_iff]; simp
theorem swNumbers_spec (x y z : Int) : Spec Try.prog 27 [i64 x, i64 y, i64 z] [] (isRes [vb (numsF x y z 8)] []) := by
  have h1 := l1All_spec [x, y, z] 0 8 (by simp)
  rw [all3] at h1
  have h2 := l1In_spec (x + y + z) 1 8
  refine Spec.of_wpx tt_ok Try.func27 (by kernel_rfl) rfl ?_
  by_cases h : (0 ≤ x ∧ x ≤ 8) ∧ (0 ≤ y ∧ y ≤ 8) ∧ (0 ≤ z ∧ z ≤ 8)
  · have e : numsF x y z 8 = decide (1 ≤ x + y + z ∧ x + y + z ≤ 8) := by
      unfold numsF; rw [Bool.eq_iff_iff]; simp only [decide_eq_true_eq]; omega
    rw [e]
    rw [decide_eq_true h] at h1
    have h1 := Spec.ren [(1000, 10)] [(10, 1000)] h1 rfl rfl rfl
    generalize decide (1 ≤ x + y + z ∧ x + y + z ≤ 8) = b at *
    (repeat' ((conv => whnf); first | refine CondVC.t ?_ | refine CondVC.f ?_ | refine CondVC.dec (fun h => ?_) (fun h => ?_) | refine CondVC.ndec (fun h => ?_) (fun h => ?_) | refine CondVC.mk (fun h => ?_) (fun h => ?_) | refine ArVC.i64 (by first | omega | (simp only; omega)) ?_ | refine SideVC.mk (by first | omega | decide | (simp only; omega) | (simp [slS]; done) | (simp [slS]; omega) | (simp only [byteE_len, mvE_len, strE_len, intE_len, esC_len, List.length_cons, List.length_nil, List.length_append, List.length_replicate, List.length_set, Int.toNat_natCast, and_true] at *; omega)) ?_ | refine LoopN.go ?_ | exact trivial | refine AltVC.mk ?_ ?_ | refine HeldVC.mk rfl ?_ | refine CallVC.res [10] rfl h1 rfl ?_ | refine CallVC.pure h2 rfl ?_ | refine OpVC.more tt_ok ?_ | refine RestVC.ext tt_ok ?_)); all_goals (conv => whnf)
    all_goals exact RetVC.res rfl rfl
  · have e : numsF x y z 8 = false := by
      unfold numsF; rw [decide_eq_false_iff_not]; omega
    rw [e]
    rw [decide_eq_false h] at h1
    have h1 := Spec.ren [(1000, 10)] [(10, 1000)] h1 rfl rfl rfl
    (repeat' ((conv => whnf); first | refine CondVC.t ?_ | refine CondVC.f ?_ | refine CondVC.dec (fun h => ?_) (fun h => ?_) | refine CondVC.ndec (fun h => ?_) (fun h => ?_) | refine CondVC.mk (fun h => ?_) (fun h => ?_) | refine ArVC.i64 (by first | omega | (simp only; omega)) ?_ | refine SideVC.mk (by first | omega | decide | (simp only; omega) | (simp [slS]; done) | (simp [slS]; omega) | (simp only [byteE_len, mvE_len, strE_len, intE_len, esC_len, List.length_cons, List.length_nil, List.length_append, List.length_replicate, List.length_set, Int.toNat_natCast, and_true] at *; omega)) ?_ | refine LoopN.go ?_ | exact trivial | refine AltVC.mk ?_ ?_ | refine HeldVC.mk rfl ?_ | refine CallVC.res [10] rfl h1 rfl ?_ | refine OpVC.more tt_ok ?_ | refine RestVC.ext tt_ok ?_)); all_goals (conv => whnf)
    all_goals exact RetVC.res rfl rfl
theorem areCounts_spec (x y z n : Int) (hn : n ≤ 1000) : Spec Try.prog 29 [i64 x, i64 y, i64 z, i64 n] [] (isRes [vb (numsF x y z n)] []) := by
  have h1 := within_spec x 0 n
  have h2 := within_spec y 0 n
  have h3 := within_spec z 0 n
  have h4 := within_spec (x + y + z) 1 n
  refine Spec.of_wpx tt_ok Try.func29 (by kernel_rfl) rfl ?_
  by_cases hx : 0 ≤ x ∧ x ≤ n
  · rw [decide_eq_true hx] at h1
    by_cases hy : 0 ≤ y ∧ y ≤ n
    · rw [decide_eq_true hy] at h2
      by_cases hz : 0 ≤ z ∧ z ≤ n
      · rw [decide_eq_true hz] at h3
        have e : numsF x y z n = decide (1 ≤ x + y + z ∧ x + y + z ≤ n) := by
          unfold numsF; rw [Bool.eq_iff_iff]; simp only [decide_eq_true_eq]; omega
        rw [e]
        generalize decide (1 ≤ x + y + z ∧ x + y + z ≤ n) = b at *
        (repeat' ((conv => whnf); first | refine CondVC.t ?_ | refine CondVC.f ?_ | refine CondVC.dec (fun h => ?_) (fun h => ?_) | refine CondVC.ndec (fun h => ?_) (fun h => ?_) | refine CondVC.mk (fun h => ?_) (fun h => ?_) | refine ArVC.i64 (by first | omega | (simp only; omega)) ?_ | refine SideVC.mk (by first | omega | decide | (simp only; omega) | (simp [slS]; done) | (simp [slS]; omega) | (simp only [byteE_len, mvE_len, strE_len, intE_len, esC_len, List.length_cons, List.length_nil, List.length_append, List.length_replicate, List.length_set, Int.toNat_natCast, and_true] at *; omega)) ?_ | refine LoopN.go ?_ | exact trivial | refine AltVC.mk ?_ ?_ | refine HeldVC.mk rfl ?_ | refine CallVC.pure h1 rfl ?_ | refine CallVC.pure h2 rfl ?_ | refine CallVC.pure h3 rfl ?_ | refine CallVC.pure h4 rfl ?_ | refine OpVC.more tt_ok ?_ | refine RestVC.ext tt_ok ?_)); all_goals (conv => whnf)
        all_goals exact RetVC.res rfl rfl
      · rw [decide_eq_false hz] at h3
        have e : numsF x y z n = false := by unfold numsF; rw [decide_eq_false_iff_not]; omega
        rw [e]
        (repeat' ((conv => whnf); first | refine CondVC.t ?_ | refine CondVC.f ?_ | refine CondVC.dec (fun h => ?_) (fun h => ?_) | refine CondVC.ndec (fun h => ?_) (fun h => ?_) | refine CondVC.mk (fun h => ?_) (fun h => ?_) | refine ArVC.i64 (by first | omega | (simp only; omega)) ?_ | refine SideVC.mk (by first | omega | decide | (simp only; omega) | (simp [slS]; done) | (simp [slS]; omega) | (simp only [byteE_len, mvE_len, strE_len, intE_len, esC_len, List.length_cons, List.length_nil, List.length_append, List.length_replicate, List.length_set, Int.toNat_natCast, and_true] at *; omega)) ?_ | refine LoopN.go ?_ | exact trivial | refine AltVC.mk ?_ ?_ | refine HeldVC.mk rfl ?_ | refine CallVC.pure h1 rfl ?_ | refine CallVC.pure h2 rfl ?_ | refine CallVC.pure h3 rfl ?_ | refine OpVC.more tt_ok ?_ | refine RestVC.ext tt_ok ?_)); all_goals (conv => whnf)
        all_goals exact RetVC.res rfl rfl
    · rw [decide_eq_false hy] at h2
      have e : numsF x y z n = false := by unfold numsF; rw [decide_eq_false_iff_not]; omega
      rw [e]
      (repeat' ((conv => whnf); first | refine CondVC.t ?_ | refine CondVC.f ?_ | refine CondVC.dec (fun h => ?_) (fun h => ?_) | refine CondVC.ndec (fun h => ?_) (fun h => ?_) | refine CondVC.mk (fun h => ?_) (fun h => ?_) | refine ArVC.i64 (by first | omega | (simp only; omega)) ?_ | refine SideVC.mk (by first | omega | decide | (simp only; omega) | (simp [slS]; done) | (simp [slS]; omega) | (simp only [byteE_len, mvE_len, strE_len, intE_len, esC_len, List.length_cons, List.length_nil, List.length_append, List.length_replicate, List.length_set, Int.toNat_natCast, and_true] at *; omega)) ?_ | refine LoopN.go ?_ | exact trivial | refine AltVC.mk ?_ ?_ | refine HeldVC.mk rfl ?_ | refine CallVC.pure h1 rfl ?_ | refine CallVC.pure h2 rfl ?_ | refine OpVC.more tt_ok ?_ | refine RestVC.ext tt_ok ?_)); all_goals (conv => whnf)
      all_goals exact RetVC.res rfl rfl
  · rw [decide_eq_false hx] at h1
    have e : numsF x y z n = false := by unfold numsF; rw [decide_eq_false_iff_not]; omega
    rw [e]
    (repeat' ((conv => whnf); first | refine CondVC.t ?_ | refine CondVC.f ?_ | refine CondVC.dec (fun h => ?_) (fun h => ?_) | refine CondVC.ndec (fun h => ?_) (fun h => ?_) | refine CondVC.mk (fun h => ?_) (fun h => ?_) | refine ArVC.i64 (by first | omega | (simp only; omega)) ?_ | refine SideVC.mk (by first | omega | decide | (simp only; omega) | (simp [slS]; done) | (simp [slS]; omega) | (simp only [byteE_len, mvE_len, strE_len, intE_len, esC_len, List.length_cons, List.length_nil, List.length_append, List.length_replicate, List.length_set, Int.toNat_natCast, and_true] at *; omega)) ?_ | refine LoopN.go ?_ | exact trivial | refine AltVC.mk ?_ ?_ | refine HeldVC.mk rfl ?_ | refine CallVC.pure h1 rfl ?_ | refine OpVC.more tt_ok ?_ | refine RestVC.ext tt_ok ?_)); all_goals (conv => whnf)
    all_goals exact RetVC.res rfl rfl
end Go.Proofs.Ytblihaicbhdbdaa.X
