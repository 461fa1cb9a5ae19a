/- FnExactCountOutcomes: both functions and the law. No condition beyond the statement's. -/
import Derived.Test.YtblihaicbhdbdaaCntW
import Derived.Test.YtblihaicbhdbdaaCnt
namespace Go.Proofs.Ytblihaicbhdbdaa.X.A3
open Go.Proofs
set_option maxRecDepth 100000
set_option linter.unusedVariables false
set_option linter.unusedSimpArgs false

theorem allLines_spec (t g f : Nat) (hn : t + g + f ≤ 7) (x y z : Int) (ex : x = t) (ey : y = g) (ez : z = f) (es : List (C × V)) (hes : okWin es) (c : Nat → Int) (hc : ∀ k, c k = 0) :
    Spec Try.prog 56 [i64 x, i64 y, i64 z, .c (.fn 57 [1002, 1003])] [(1002, .box 38 [.sl 1004]), (1004, .sl 3 1 (cR c)), (1003, .box 77 [.mp 1005]), (1005, .ext (.mp none es))]
      (exRes okWin (fun _ => []) (fun es' => [(1002, .box 38 [.sl 1004]), (1004, .sl 3 1 (cR fun k => c k + (cK k (t + g + f) [] t g f : Nat))), (1003, .box 77 [.mp 1005]), (1005, .ext (.mp none es'))])) := by
  have h1 := put_spec (t + g + f) [] t g f rfl (by simp only [List.length_nil]; omega) x y z ex ey ez c es (fun k => by
    have h3 : (3 : Nat) ^ (t + g + f) ≤ 3 ^ 7 := Nat.pow_le_pow_right (by decide) hn
    have : (3 : Nat) ^ 7 = 2187 := by decide
    rw [hc k]
    omega) hes
  unfold aM aR at h1
  generalize (cR fun k => c k + (cK k (t + g + f) [] t g f : Nat)) = R at *
  have h2 := Spec.renE [(1000, 7), (1001, 9), (1006, 4006)] [(7, 1000), (9, 1001), (4006, 1006)] h1 (fun _ => rfl) (fun _ => rfl) rfl
  refine Spec.of_wpx tt_ok Try.func56 (by kernel_rfl) rfl ?_
  (repeat' ((conv => whnf); first | refine CondVC.t ?_ | refine CondVC.f ?_ | refine CondVC.dec (fun h => ?_) (fun h => ?_) | refine CondVC.ndec (fun h => ?_) (fun h => ?_) | refine CondVC.mk (fun h => ?_) (fun h => ?_) | refine ArVC.i64 (by first | omega | (simp only; omega)) ?_ | refine SideVC.mk (by first | omega | decide | (simp only; omega) | (simp [slS]; done) | (simp [slS]; omega) | (simp only [byteE_len, mvE_len, strE_len, intE_len, esC_len, List.length_cons, List.length_nil, List.length_append, List.length_replicate, List.length_set, Int.toNat_natCast, and_true] at *; omega)) ?_ | refine LoopN.go ?_ | exact trivial | refine AltVC.mk ?_ ?_ | refine HeldVC.mk rfl ?_ | refine RestVC2.buildArr [i64c y, i64c z, i64c x] rfl rfl (fun ρ => by kernel_rfl) ?_ | (refine CallVC.nil 4006 5 1 [.c (.sl 4006), .agg [i64c y, i64c z, i64c x], .c (.ptr 7 0), .c (.ptr 9 0)] [(9, .box 102 [.fn 81 [7, 9]]), (8, .box 101 [i64c y, i64c z, i64c x]), (7, .box 81 [.fn 57 [1002, 1003]]), (1002, .box 38 [.sl 1004]), (1004, .sl 3 1 (cR c)), (1003, .box 77 [.mp 1005]), (1005, .ext (.mp none es))] rfl rfl rfl ?_; refine CallVC.ex [7, 9, 1002, 1004, 1003, 1005, 4006] rfl h2 ?_; intro es2 hes2; refine ⟨rfl, ?_⟩) | refine OpVC.more tt_ok ?_ | refine RestVC.ext tt_ok ?_)); all_goals (conv => whnf)
  all_goals first
    | (exfalso; omega)
    | exact RetVC.mk rfl ⟨es2, hes2, rfl, rfl⟩
def cntL (x y z : Int) : List (List C) := if numsF x y z 7 then cR fun k => (cK k (x.toNat + y.toNat + z.toNat) [] x.toNat y.toNat z.toNat : Nat) else []
set_option maxHeartbeats 4000000 in
theorem implCountOutcomes_spec (x y z : Int) : Spec Try.prog 23 [i64 x, i64 y, i64 z] [] (isRes [.c (.sl 1001), vb (numsF x y z 7)] [(1001, .sl 3 1 (cntL x y z))]) := by
  have h1 := areCounts_spec x y z 7 (by omega)
  unfold cntL
  refine Spec.of_wpx tt_ok Try.func23 (by kernel_rfl) rfl ?_
  cases hn : numsF x y z 7 with
  | true =>
    rw [hn] at h1
    obtain ⟨a, b, c, rfl, rfl, rfl, hge, hle⟩ := nums_cast hn
    rw [if_pos rfl]
    simp only [Int.toNat_natCast]
    have h2 := allLines_spec a b c (by omega) a b c rfl rfl rfl [] okWin_nil (fun _ => 0) (fun _ => rfl)
    simp only [Int.zero_add] at h2
    have h3 := Spec.renE [(1002, 9), (1003, 8), (1004, 16), (1005, 2000)] [(9, 1002), (8, 1003), (16, 1004), (2000, 1005)] h2 (fun _ => rfl) (fun _ => rfl) rfl
    generalize (cR fun k => ((cK k (a + b + c) [] a b c : Nat) : Int)) = R at *
    (repeat' ((conv => whnf); first | refine CondVC.t ?_ | refine CondVC.f ?_ | refine CondVC.dec (fun h => ?_) (fun h => ?_) | refine CondVC.ndec (fun h => ?_) (fun h => ?_) | refine CondVC.mk (fun h => ?_) (fun h => ?_) | refine ArVC.i64 (by first | omega | (simp only; omega)) ?_ | refine SideVC.mk (by first | omega | decide | (simp only; omega) | (simp [slS]; done) | (simp [slS]; omega) | (simp only [byteE_len, mvE_len, strE_len, intE_len, esC_len, List.length_cons, List.length_nil, List.length_append, List.length_replicate, List.length_set, Int.toNat_natCast, and_true] at *; omega)) ?_ | refine LoopN.go ?_ | exact trivial | refine AltVC.mk ?_ ?_ | refine HeldVC.mk rfl ?_ | refine CallVC.pure h1 rfl ?_ | refine OpVC.more tt_ok ?_ | refine RestVC.ext tt_ok ?_)); all_goals (conv => whnf)
    refine DrawVC.tree (id := 3) tt_ok [] tr23_3 (by kernel_rfl) (by kernel_rfl) rfl ?_
    (repeat' ((conv => whnf); first | refine CondVC.t ?_ | refine CondVC.f ?_ | refine CondVC.dec (fun h => ?_) (fun h => ?_) | refine CondVC.ndec (fun h => ?_) (fun h => ?_) | refine CondVC.mk (fun h => ?_) (fun h => ?_) | refine ArVC.i64 (by first | omega | (simp only; omega)) ?_ | refine SideVC.mk (by first | omega | decide | (simp only; omega) | (simp [slS]; done) | (simp [slS]; omega) | (simp only [byteE_len, mvE_len, strE_len, intE_len, esC_len, List.length_cons, List.length_nil, List.length_append, List.length_replicate, List.length_set, Int.toNat_natCast, and_true] at *; omega)) ?_ | refine LoopN.go ?_ | exact trivial | refine AltVC.mk ?_ ?_ | refine HeldVC.mk rfl ?_ | refine CallVC.pure h1 rfl ?_ | refine CallVC.res [] rfl (Spec.ren [(1000, 2000)] [(2000, 1000)] newGames_spec rfl rfl rfl) rfl ?_ | (refine CallVC.ex [9, 16, 8, 2000] rfl h3 ?_; intro es2 hes2; refine ⟨rfl, ?_⟩) | refine OpVC.more tt_ok ?_ | refine RestVC.ext tt_ok ?_)); all_goals (conv => whnf)
    all_goals first
      | (exfalso; omega)
      | exact RetVC.ren [(1001, 16)] [.c (.sl 1001), vb true] [(1001, .sl 3 1 R)] rfl rfl rfl ⟨rfl, rfl⟩
  | false =>
    rw [hn] at h1
    rw [if_neg Bool.false_ne_true]
    (repeat' ((conv => whnf); first | refine CondVC.t ?_ | refine CondVC.f ?_ | refine CondVC.dec (fun h => ?_) (fun h => ?_) | refine CondVC.ndec (fun h => ?_) (fun h => ?_) | refine CondVC.mk (fun h => ?_) (fun h => ?_) | refine ArVC.i64 (by first | omega | (simp only; omega)) ?_ | refine SideVC.mk (by first | omega | decide | (simp only; omega) | (simp [slS]; done) | (simp [slS]; omega) | (simp only [byteE_len, mvE_len, strE_len, intE_len, esC_len, List.length_cons, List.length_nil, List.length_append, List.length_replicate, List.length_set, Int.toNat_natCast, and_true] at *; omega)) ?_ | refine LoopN.go ?_ | exact trivial | refine AltVC.mk ?_ ?_ | refine HeldVC.mk rfl ?_ | refine CallVC.pure h1 rfl ?_ | refine OpVC.more tt_ok ?_ | refine RestVC.ext tt_ok ?_)); all_goals (conv => whnf)
    all_goals exact RetVC.nil 1001 3 1 [.c (.sl 1001), vb false] [] rfl rfl rfl (RetVC.res rfl rfl)

theorem liThree_spec (x y z : Int) : Spec Try.prog 53 [i64 x, i64 y, i64 z] [] (isRes [vb (numsF x y z 12)] []) := by
  have h1 := l1All_spec [x, y, z] 0 12 (by simp)
  rw [all3] at h1
  have h2 := l1In_spec (x + y + z) 1 12
  refine Spec.of_wpx tt_ok Try.func53 (by kernel_rfl) rfl ?_
  by_cases h : (0 ≤ x ∧ x ≤ 12) ∧ (0 ≤ y ∧ y ≤ 12) ∧ (0 ≤ z ∧ z ≤ 12)
  · have e : numsF x y z 12 = decide (1 ≤ x + y + z ∧ x + y + z ≤ 12) := by
      unfold numsF; rw [Bool.eq_iff_iff]; simp only [decide_eq_true_eq]; omega
    rw [e]
    rw [decide_eq_true h] at h1
    have h1 := Spec.ren [(1000, 10)] [(10, 1000)] h1 rfl rfl rfl
    generalize decide (1 ≤ x + y + z ∧ x + y + z ≤ 12) = b at *
    (repeat' ((conv => whnf); first | refine CondVC.t ?_ | refine CondVC.f ?_ | refine CondVC.dec (fun h => ?_) (fun h => ?_) | refine CondVC.ndec (fun h => ?_) (fun h => ?_) | refine CondVC.mk (fun h => ?_) (fun h => ?_) | refine ArVC.i64 (by first | omega | (simp only; omega)) ?_ | refine SideVC.mk (by first | omega | decide | (simp only; omega) | (simp [slS]; done) | (simp [slS]; omega) | (simp only [byteE_len, mvE_len, strE_len, intE_len, esC_len, List.length_cons, List.length_nil, List.length_append, List.length_replicate, List.length_set, Int.toNat_natCast, and_true] at *; omega)) ?_ | refine LoopN.go ?_ | exact trivial | refine AltVC.mk ?_ ?_ | refine HeldVC.mk rfl ?_ | refine CallVC.res [10] rfl h1 rfl ?_ | refine CallVC.pure h2 rfl ?_ | refine OpVC.more tt_ok ?_ | refine RestVC.ext tt_ok ?_)); all_goals (conv => whnf)
    all_goals exact RetVC.res rfl rfl
  · have e : numsF x y z 12 = false := by
      unfold numsF; rw [decide_eq_false_iff_not]; omega
    rw [e]
    rw [decide_eq_false h] at h1
    have h1 := Spec.ren [(1000, 10)] [(10, 1000)] h1 rfl rfl rfl
    (repeat' ((conv => whnf); first | refine CondVC.t ?_ | refine CondVC.f ?_ | refine CondVC.dec (fun h => ?_) (fun h => ?_) | refine CondVC.ndec (fun h => ?_) (fun h => ?_) | refine CondVC.mk (fun h => ?_) (fun h => ?_) | refine ArVC.i64 (by first | omega | (simp only; omega)) ?_ | refine SideVC.mk (by first | omega | decide | (simp only; omega) | (simp [slS]; done) | (simp [slS]; omega) | (simp only [byteE_len, mvE_len, strE_len, intE_len, esC_len, List.length_cons, List.length_nil, List.length_append, List.length_replicate, List.length_set, Int.toNat_natCast, and_true] at *; omega)) ?_ | refine LoopN.go ?_ | exact trivial | refine AltVC.mk ?_ ?_ | refine HeldVC.mk rfl ?_ | refine CallVC.res [10] rfl h1 rfl ?_ | refine OpVC.more tt_ok ?_ | refine RestVC.ext tt_ok ?_)); all_goals (conv => whnf)
    all_goals exact RetVC.res rfl rfl
theorem nums_7 (x y z : Int) : numsF x y z 7 = (numsF x y z 12 && !decide (7 < x + y + z)) := by
  unfold numsF
  rw [Bool.eq_iff_iff]
  simp only [Bool.and_eq_true, decide_eq_true_eq, Bool.not_eq_true', decide_eq_false_iff_not]
  omega
theorem specCountOutcomes_spec (x y z : Int) : Spec Try.prog 22 [i64 x, i64 y, i64 z] [] (isRes [.c (.sl 1001), vb (numsF x y z 7)] [(1001, .sl 3 1 (cntL x y z))]) := by
  have h1 := liThree_spec x y z
  unfold cntL
  rw [nums_7]
  refine Spec.of_wpx tt_ok Try.func22 (by kernel_rfl) rfl ?_
  cases hn : numsF x y z 12 with
  | true =>
    rw [hn] at h1
    obtain ⟨a, b, c, rfl, rfl, rfl, hge, hle⟩ := nums_cast hn
    by_cases h7 : (7 : Int) < (a : Int) + b + c
    · rw [decide_eq_true h7, if_neg (by decide)]
      (repeat' ((conv => whnf); first | refine CondVC.t ?_ | refine CondVC.f ?_ | refine CondVC.dec (fun h => ?_) (fun h => ?_) | refine CondVC.ndec (fun h => ?_) (fun h => ?_) | refine CondVC.mk (fun h => ?_) (fun h => ?_) | refine ArVC.i64 (by first | omega | (simp only; omega)) ?_ | refine SideVC.mk (by first | omega | decide | (simp only; omega) | (simp [slS]; done) | (simp [slS]; omega) | (simp only [byteE_len, mvE_len, strE_len, intE_len, esC_len, List.length_cons, List.length_nil, List.length_append, List.length_replicate, List.length_set, Int.toNat_natCast, and_true] at *; omega)) ?_ | refine LoopN.go ?_ | exact trivial | refine AltVC.mk ?_ ?_ | refine HeldVC.mk rfl ?_ | refine CallVC.pure h1 rfl ?_ | refine OpVC.more tt_ok ?_ | refine RestVC.ext tt_ok ?_)); all_goals (conv => whnf)
      all_goals first
        | (exfalso; omega)
        | exact RetVC.nil 1001 3 1 [.c (.sl 1001), vb false] [] rfl rfl rfl (RetVC.res rfl rfl)
    · rw [decide_eq_false h7, if_pos (by decide)]
      simp only [Int.toNat_natCast]
      have h2 := gaCount_spec (a + b + c) [] a b c rfl rfl (by simp only [List.length_nil]; omega) a b c rfl rfl rfl (fun _ => 0) (fun k => by
        have h3 : (3 : Nat) ^ (a + b + c) ≤ 3 ^ 7 := Nat.pow_le_pow_right (by decide) (by omega)
        have : (3 : Nat) ^ 7 = 2187 := by decide
        omega)
      simp only [Int.zero_add] at h2
      have h3 := Spec.ren [(1000, 22)] [(22, 1000)] h2 rfl rfl rfl
      generalize (cR fun k => ((cK k (a + b + c) [] a b c : Nat) : Int)) = R at *
      (repeat' ((conv => whnf); first | refine CondVC.t ?_ | refine CondVC.f ?_ | refine CondVC.dec (fun h => ?_) (fun h => ?_) | refine CondVC.ndec (fun h => ?_) (fun h => ?_) | refine CondVC.mk (fun h => ?_) (fun h => ?_) | refine ArVC.i64 (by first | omega | (simp only; omega)) ?_ | refine SideVC.mk (by first | omega | decide | (simp only; omega) | (simp [slS]; done) | (simp [slS]; omega) | (simp only [byteE_len, mvE_len, strE_len, intE_len, esC_len, List.length_cons, List.length_nil, List.length_append, List.length_replicate, List.length_set, Int.toNat_natCast, and_true] at *; omega)) ?_ | refine LoopN.go ?_ | exact trivial | refine AltVC.mk ?_ ?_ | refine HeldVC.mk rfl ?_ | refine CallVC.pure h1 rfl ?_ | refine CallVC.res [22] rfl h3 rfl ?_ | refine OpVC.more tt_ok ?_ | refine RestVC.ext tt_ok ?_)); all_goals (conv => whnf)
      all_goals first
        | (exfalso; omega)
        | exact RetVC.ren [(1001, 22)] [.c (.sl 1001), vb true] [(1001, .sl 3 1 R)] rfl rfl rfl ⟨rfl, rfl⟩
  | false =>
    rw [hn] at h1
    rw [Bool.false_and, if_neg Bool.false_ne_true]
    (repeat' ((conv => whnf); first | refine CondVC.t ?_ | refine CondVC.f ?_ | refine CondVC.dec (fun h => ?_) (fun h => ?_) | refine CondVC.ndec (fun h => ?_) (fun h => ?_) | refine CondVC.mk (fun h => ?_) (fun h => ?_) | refine ArVC.i64 (by first | omega | (simp only; omega)) ?_ | refine SideVC.mk (by first | omega | decide | (simp only; omega) | (simp [slS]; done) | (simp [slS]; omega) | (simp only [byteE_len, mvE_len, strE_len, intE_len, esC_len, List.length_cons, List.length_nil, List.length_append, List.length_replicate, List.length_set, Int.toNat_natCast, and_true] at *; omega)) ?_ | refine LoopN.go ?_ | exact trivial | refine AltVC.mk ?_ ?_ | refine HeldVC.mk rfl ?_ | refine CallVC.pure h1 rfl ?_ | refine OpVC.more tt_ok ?_ | refine RestVC.ext tt_ok ?_)); all_goals (conv => whnf)
    all_goals exact RetVC.nil 1001 3 1 [.c (.sl 1001), vb false] [] rfl rfl rfl (RetVC.res rfl rfl)

/-! ### The law -/
def qR (a b c d : Int) : List (List C) := [[i64c a], [i64c b], [i64c c], [i64c d]]
theorem eqInt4_spec (a b c d : Int) : Spec Try.prog 24 [.c (.sl 1000), .c (.sl 1001)] [(1000, .sl 3 1 (qR a b c d)), (1001, .sl 3 1 (qR a b c d))]
    (isRes [vb true] [(1000, .sl 3 1 (qR a b c d)), (1001, .sl 3 1 (qR a b c d))]) := by
  unfold qR i64c
  refine Spec.of_wpx tt_ok Try.func24 (by kernel_rfl) rfl ?_
  (repeat' ((conv => whnf); first | refine CondVC.t ?_ | refine CondVC.f ?_ | refine CondVC.dec (fun h => ?_) (fun h => ?_) | refine CondVC.ndec (fun h => ?_) (fun h => ?_) | refine CondVC.mk (fun h => ?_) (fun h => ?_) | refine ArVC.i64 (by first | omega | (simp only; omega)) ?_ | refine SideVC.mk (by first | omega | decide | (simp only; omega) | (simp [slS]; done) | (simp [slS]; omega) | (simp only [byteE_len, mvE_len, strE_len, intE_len, esC_len, List.length_cons, List.length_nil, List.length_append, List.length_replicate, List.length_set, Int.toNat_natCast, and_true] at *; omega)) ?_ | refine LoopN.go ?_ | exact trivial | refine AltVC.mk ?_ ?_ | refine HeldVC.mk rfl ?_ | refine LoopVC.rounds 5 ?_ | refine DrawVC.quiet tt_ok (by kernel_rfl) (by kernel_rfl) ?_ | refine LoadVC.mk _ rfl ?_ | refine OpVC.more tt_ok ?_ | refine RestVC.ext tt_ok ?_)); all_goals (conv => whnf)
  all_goals first | exact RetVC.res rfl rfl | (exfalso; simp_all; done) | (exfalso; omega)
theorem eqInt0_spec : Spec Try.prog 24 [.c (.sl 1000), .c (.sl 1001)] [(1000, .sl 3 1 []), (1001, .sl 3 1 [])]
    (isRes [vb true] [(1000, .sl 3 1 []), (1001, .sl 3 1 [])]) := by
  refine Spec.of_wpx tt_ok Try.func24 (by kernel_rfl) rfl ?_
  (repeat' ((conv => whnf); first | refine CondVC.t ?_ | refine CondVC.f ?_ | refine CondVC.dec (fun h => ?_) (fun h => ?_) | refine CondVC.ndec (fun h => ?_) (fun h => ?_) | refine CondVC.mk (fun h => ?_) (fun h => ?_) | refine ArVC.i64 (by first | omega | (simp only; omega)) ?_ | refine SideVC.mk (by first | omega | decide | (simp only; omega) | (simp [slS]; done) | (simp [slS]; omega) | (simp only [byteE_len, mvE_len, strE_len, intE_len, esC_len, List.length_cons, List.length_nil, List.length_append, List.length_replicate, List.length_set, Int.toNat_natCast, and_true] at *; omega)) ?_ | refine LoopN.go ?_ | exact trivial | refine AltVC.mk ?_ ?_ | refine HeldVC.mk rfl ?_ | refine LoopVC.rounds 5 ?_ | refine DrawVC.quiet tt_ok (by kernel_rfl) (by kernel_rfl) ?_ | refine LoadVC.mk _ rfl ?_ | refine OpVC.more tt_ok ?_ | refine RestVC.ext tt_ok ?_)); all_goals (conv => whnf)
  all_goals first | exact RetVC.res rfl rfl | (exfalso; simp_all; done) | (exfalso; omega)
theorem markInt4_spec (a b c d : Int) : Spec Try.prog 25 [.c (.sl 1000), i64 1] [(1000, .sl 3 1 (qR a b c d))]
    (isRes [i64 5] [(1000, .sl 3 1 (qR 1 2 3 4))]) := by
  unfold qR i64c
  refine Spec.of_wpx tt_ok Try.func25 (by kernel_rfl) rfl ?_
  (repeat' ((conv => whnf); first | refine CondVC.t ?_ | refine CondVC.f ?_ | refine CondVC.dec (fun h => ?_) (fun h => ?_) | refine CondVC.ndec (fun h => ?_) (fun h => ?_) | refine CondVC.mk (fun h => ?_) (fun h => ?_) | refine ArVC.i64 (by first | omega | (simp only; omega)) ?_ | refine SideVC.mk (by first | omega | decide | (simp only; omega) | (simp [slS]; done) | (simp [slS]; omega) | (simp only [byteE_len, mvE_len, strE_len, intE_len, esC_len, List.length_cons, List.length_nil, List.length_append, List.length_replicate, List.length_set, Int.toNat_natCast, and_true] at *; omega)) ?_ | refine LoopN.go ?_ | exact trivial | refine AltVC.mk ?_ ?_ | refine HeldVC.mk rfl ?_ | refine LoopVC.rounds 5 ?_ | refine LoadVC.mk _ rfl ?_ | refine OpVC.more tt_ok ?_ | refine RestVC.ext tt_ok ?_)); all_goals (conv => whnf)
  all_goals first | exact RetVC.res rfl rfl | (exfalso; simp_all; done) | (exfalso; omega)
theorem markInt0_spec : Spec Try.prog 25 [.c (.sl 1000), i64 1] [(1000, .sl 3 1 [])]
    (isRes [i64 1] [(1000, .sl 3 1 [])]) := by
  refine Spec.of_wpx tt_ok Try.func25 (by kernel_rfl) rfl ?_
  (repeat' ((conv => whnf); first | refine CondVC.t ?_ | refine CondVC.f ?_ | refine CondVC.dec (fun h => ?_) (fun h => ?_) | refine CondVC.ndec (fun h => ?_) (fun h => ?_) | refine CondVC.mk (fun h => ?_) (fun h => ?_) | refine ArVC.i64 (by first | omega | (simp only; omega)) ?_ | refine SideVC.mk (by first | omega | decide | (simp only; omega) | (simp [slS]; done) | (simp [slS]; omega) | (simp only [byteE_len, mvE_len, strE_len, intE_len, esC_len, List.length_cons, List.length_nil, List.length_append, List.length_replicate, List.length_set, Int.toNat_natCast, and_true] at *; omega)) ?_ | refine LoopN.go ?_ | exact trivial | refine AltVC.mk ?_ ?_ | refine HeldVC.mk rfl ?_ | refine LoopVC.rounds 5 ?_ | refine LoadVC.mk _ rfl ?_ | refine OpVC.more tt_ok ?_ | refine RestVC.ext tt_ok ?_)); all_goals (conv => whnf)
  all_goals first | exact RetVC.res rfl rfl | (exfalso; simp_all; done) | (exfalso; omega)
theorem heldInt4_spec : Spec Try.prog 26 [.c (.sl 1000), i64 1] [(1000, .sl 3 1 (qR 1 2 3 4))]
    (isRes [i64 5] [(1000, .sl 3 1 (qR 1 2 3 4))]) := by
  unfold qR i64c
  refine Spec.of_wpx tt_ok Try.func26 (by kernel_rfl) rfl ?_
  (repeat' ((conv => whnf); first | refine CondVC.t ?_ | refine CondVC.f ?_ | refine CondVC.dec (fun h => ?_) (fun h => ?_) | refine CondVC.ndec (fun h => ?_) (fun h => ?_) | refine CondVC.mk (fun h => ?_) (fun h => ?_) | refine ArVC.i64 (by first | omega | (simp only; omega)) ?_ | refine SideVC.mk (by first | omega | decide | (simp only; omega) | (simp [slS]; done) | (simp [slS]; omega) | (simp only [byteE_len, mvE_len, strE_len, intE_len, esC_len, List.length_cons, List.length_nil, List.length_append, List.length_replicate, List.length_set, Int.toNat_natCast, and_true] at *; omega)) ?_ | refine LoopN.go ?_ | exact trivial | refine AltVC.mk ?_ ?_ | refine HeldVC.mk rfl ?_ | refine LoopVC.rounds 5 ?_ | refine LoadVC.mk _ rfl ?_ | refine OpVC.more tt_ok ?_ | refine RestVC.ext tt_ok ?_)); all_goals (conv => whnf)
  all_goals first | exact RetVC.res rfl rfl | (exfalso; simp_all; done) | (exfalso; omega)
theorem heldInt0_spec : Spec Try.prog 26 [.c (.sl 1000), i64 1] [(1000, .sl 3 1 [])]
    (isRes [i64 1] [(1000, .sl 3 1 [])]) := by
  refine Spec.of_wpx tt_ok Try.func26 (by kernel_rfl) rfl ?_
  (repeat' ((conv => whnf); first | refine CondVC.t ?_ | refine CondVC.f ?_ | refine CondVC.dec (fun h => ?_) (fun h => ?_) | refine CondVC.ndec (fun h => ?_) (fun h => ?_) | refine CondVC.mk (fun h => ?_) (fun h => ?_) | refine ArVC.i64 (by first | omega | (simp only; omega)) ?_ | refine SideVC.mk (by first | omega | decide | (simp only; omega) | (simp [slS]; done) | (simp [slS]; omega) | (simp only [byteE_len, mvE_len, strE_len, intE_len, esC_len, List.length_cons, List.length_nil, List.length_append, List.length_replicate, List.length_set, Int.toNat_natCast, and_true] at *; omega)) ?_ | refine LoopN.go ?_ | exact trivial | refine AltVC.mk ?_ ?_ | refine HeldVC.mk rfl ?_ | refine LoopVC.rounds 5 ?_ | refine LoadVC.mk _ rfl ?_ | refine OpVC.more tt_ok ?_ | refine RestVC.ext tt_ok ?_)); all_goals (conv => whnf)
  all_goals first | exact RetVC.res rfl rfl | (exfalso; simp_all; done) | (exfalso; omega)
end Go.Proofs.Ytblihaicbhdbdaa.X.A3
namespace Go.Proofs.Ytblihaicbhdbdaa.X
open Go.Proofs
set_option maxRecDepth 100000
theorem lawCountOutcomes_spec (x y z : Int) : Spec Try.prog 7 [i64 x, i64 y, i64 z] [] (isRes [vb true] []) := by
  have h1 := A3.specCountOutcomes_spec x y z
  have h2 := A3.implCountOutcomes_spec x y z
  refine Spec.of_wpx tt_ok Try.func7 (by kernel_rfl) rfl ?_
  unfold A3.cntL at h1 h2
  by_cases hn : numsF x y z 7 = true
  · rw [if_pos hn] at h1 h2
    rw [hn] at h1 h2
    obtain ⟨a, b, c, d, hq⟩ : ∃ a b c d, (cR fun k => (cK k (x.toNat + y.toNat + z.toNat) [] x.toNat y.toNat z.toNat : Nat)) = A3.qR a b c d := ⟨_, _, _, _, rfl⟩
    rw [hq] at h1 h2
    (repeat' ((conv => whnf); first | refine CondVC.t ?_ | refine CondVC.f ?_ | refine CondVC.dec (fun h => ?_) (fun h => ?_) | refine CondVC.ndec (fun h => ?_) (fun h => ?_) | refine CondVC.mk (fun h => ?_) (fun h => ?_) | refine ArVC.i64 (by first | omega | (simp only; omega)) ?_ | refine SideVC.mk (by first | omega | decide | (simp only; omega) | (simp [slS]; done) | (simp [slS]; omega) | (simp only [byteE_len, mvE_len, strE_len, intE_len, esC_len, List.length_cons, List.length_nil, List.length_append, List.length_replicate, List.length_set, Int.toNat_natCast, and_true] at *; omega)) ?_ | refine LoopN.go ?_ | exact trivial | refine AltVC.mk ?_ ?_ | refine HeldVC.mk rfl ?_ | refine CallVC.res [] rfl (Spec.ren [(1001, 2001)] [(2001, 1001)] h1 rfl rfl rfl) rfl ?_ | refine CallVC.res [] rfl (Spec.ren [(1001, 2002)] [(2002, 1001)] h2 rfl rfl rfl) rfl ?_ | refine CallVC.res [] rfl (Spec.ren [(1001, 2003)] [(2003, 1001)] h2 rfl rfl rfl) rfl ?_ | refine CallVC.res [2002, 2001] rfl (Spec.ren [(1000, 2002), (1001, 2001)] [(2002, 1000), (2001, 1001)] (A3.eqInt4_spec a b c d) rfl rfl rfl) rfl ?_ | refine CallVC.res [2003, 2001] rfl (Spec.ren [(1000, 2003), (1001, 2001)] [(2003, 1000), (2001, 1001)] (A3.eqInt4_spec a b c d) rfl rfl rfl) rfl ?_ | refine CallVC.res [2002] rfl (Spec.ren [(1000, 2002)] [(2002, 1000)] (A3.markInt4_spec a b c d) rfl rfl rfl) rfl ?_ | refine CallVC.res [2002] rfl (Spec.ren [(1000, 2002)] [(2002, 1000)] A3.heldInt4_spec rfl rfl rfl) rfl ?_ | refine OpVC.more tt_ok ?_ | refine RestVC.ext tt_ok ?_)); all_goals (conv => whnf)
    all_goals first | exact RetVC.res rfl rfl | (exfalso; omega) | (exfalso; simp_all; done)
  · rw [if_neg hn] at h1 h2
    rw [Bool.not_eq_true] at hn
    rw [hn] at h1 h2
    (repeat' ((conv => whnf); first | refine CondVC.t ?_ | refine CondVC.f ?_ | refine CondVC.dec (fun h => ?_) (fun h => ?_) | refine CondVC.ndec (fun h => ?_) (fun h => ?_) | refine CondVC.mk (fun h => ?_) (fun h => ?_) | refine ArVC.i64 (by first | omega | (simp only; omega)) ?_ | refine SideVC.mk (by first | omega | decide | (simp only; omega) | (simp [slS]; done) | (simp [slS]; omega) | (simp only [byteE_len, mvE_len, strE_len, intE_len, esC_len, List.length_cons, List.length_nil, List.length_append, List.length_replicate, List.length_set, Int.toNat_natCast, and_true] at *; omega)) ?_ | refine LoopN.go ?_ | exact trivial | refine AltVC.mk ?_ ?_ | refine HeldVC.mk rfl ?_ | refine CallVC.res [] rfl (Spec.ren [(1001, 2001)] [(2001, 1001)] h1 rfl rfl rfl) rfl ?_ | refine CallVC.res [] rfl (Spec.ren [(1001, 2002)] [(2002, 1001)] h2 rfl rfl rfl) rfl ?_ | refine CallVC.res [] rfl (Spec.ren [(1001, 2003)] [(2003, 1001)] h2 rfl rfl rfl) rfl ?_ | refine CallVC.res [2002, 2001] rfl (Spec.ren [(1000, 2002), (1001, 2001)] [(2002, 1000), (2001, 1001)] A3.eqInt0_spec rfl rfl rfl) rfl ?_ | refine CallVC.res [2003, 2001] rfl (Spec.ren [(1000, 2003), (1001, 2001)] [(2003, 1000), (2001, 1001)] A3.eqInt0_spec rfl rfl rfl) rfl ?_ | refine CallVC.res [2002] rfl (Spec.ren [(1000, 2002)] [(2002, 1000)] A3.markInt0_spec rfl rfl rfl) rfl ?_ | refine CallVC.res [2002] rfl (Spec.ren [(1000, 2002)] [(2002, 1000)] A3.heldInt0_spec rfl rfl rfl) rfl ?_ | refine OpVC.more tt_ok ?_ | refine RestVC.ext tt_ok ?_)); all_goals (conv => whnf)
    all_goals first | exact RetVC.res rfl rfl | (exfalso; omega) | (exfalso; simp_all; done)
end Go.Proofs.Ytblihaicbhdbdaa.X
