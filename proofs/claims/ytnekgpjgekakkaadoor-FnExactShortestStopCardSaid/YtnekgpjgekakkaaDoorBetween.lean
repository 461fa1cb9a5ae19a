/- Whether a line is reached, and after how many moves: the program's and the reference's. No condition beyond each statement's. -/
import Derived.Test.YtnekgpjgekakkaaDoorReach
namespace Go.Proofs.YtnekgpjgekakkaaDoor.X
open Go.Proofs
set_option maxRecDepth 100000
set_option linter.unusedVariables false
set_option linter.unusedSimpArgs false

theorem few_ok {w : Tx} (h : lineOf w 10 = true) : w.all okCh = true ∧ w.length ≤ 10 := by
  unfold lineOf at h
  simp only [Bool.and_eq_true, decide_eq_true_eq] at h
  exact ⟨h.2, by omega⟩
theorem few_and (w : Tx) : (lineOf w 12 && decide ((w.length : Int) ≤ 10)) = lineOf w 10 := by
  unfold lineOf
  cases w.all okCh
  · simp
  · simp only [Bool.and_true]
    rw [← Bool.decide_and]
    exact decide_eq_decide.2 (by omega)
def bothF (w v : Tx) : Bool := lineOf w 10 && lineOf v 10
def isBetF (w v : Tx) : Bool := bothF w v && decide (0 ≤ afterF w v)
def betF (w v : Tx) : Int := if isBetF w v then afterF w v else 0
theorem key_after {w v : Tx} {ks : List Tx} (h : okKs w ks) : (v ∈ ks ∧ 0 ≤ afterF w v ∧ dF w v = afterF w v) ∨ (v ∉ ks ∧ ¬ 0 ≤ afterF w v) := by
  rcases after_cases w v with ⟨k, hk, he⟩ | ⟨hn, he⟩
  · exact .inl ⟨(h.2 v).2 ⟨k, hk⟩, by omega, by rw [dF_reach hk, he]⟩
  · exact .inr ⟨fun hm => by obtain ⟨k, hk⟩ := (h.2 v).1 hm; exact hn k hk, by omega⟩
theorem between_spec (w v : Tx) (hw : w.length ≤ 1048576) (hv : v.length ≤ 1048576) : Spec Tryd.prog 45 [.c (.str w), .c (.str v)] [] (isRes [i64 (betF w v), vb (isBetF w v), vb (bothF w v)] []) := by
  have h1 := isReachLine_spec w hw
  have h2 := isReachLine_spec v hv
  unfold betF isBetF bothF
  refine Spec.of_wpx tt_ok Tryd.func45 (by kernel_rfl) rfl ?_
  cases ha : lineOf w 10 with
  | false =>
    rw [ha] at h1
    (repeat' ((conv => whnf); first | refine CondVC.t ?_ | refine CondVC.f ?_ | refine CondVC.dec (fun h => ?_) (fun h => ?_) | refine CondVC.ndec (fun h => ?_) (fun h => ?_) | refine CondVC.mk (fun h => ?_) (fun h => ?_) | refine ArVC.i64 (by first | omega | (simp only; omega)) ?_ | refine SideVC.mk (by first | omega | decide | (simp only; omega) | (simp [slS]; done) | (simp [slS]; omega) | (simp only [byteE_len, mvE_len, strE_len, intE_len, esC_len, List.length_cons, List.length_nil, List.length_append, List.length_replicate, List.length_set, Int.toNat_natCast, and_true] at *; omega)) ?_ | refine LoopN.go ?_ | exact trivial | refine AltVC.mk ?_ ?_ | refine HeldVC.mk rfl ?_ | refine CallVC.pure h1 rfl ?_ | refine OpVC.more tt_ok ?_ | refine RestVC.ext tt_ok ?_)); all_goals (conv => whnf)
    all_goals exact RetVC.res rfl rfl
  | true =>
    rw [ha] at h1
    cases hb : lineOf v 10 with
    | false =>
      rw [hb] at h2
      (repeat' ((conv => whnf); first | refine CondVC.t ?_ | refine CondVC.f ?_ | refine CondVC.dec (fun h => ?_) (fun h => ?_) | refine CondVC.ndec (fun h => ?_) (fun h => ?_) | refine CondVC.mk (fun h => ?_) (fun h => ?_) | refine ArVC.i64 (by first | omega | (simp only; omega)) ?_ | refine SideVC.mk (by first | omega | decide | (simp only; omega) | (simp [slS]; done) | (simp [slS]; omega) | (simp only [byteE_len, mvE_len, strE_len, intE_len, esC_len, List.length_cons, List.length_nil, List.length_append, List.length_replicate, List.length_set, Int.toNat_natCast, and_true] at *; omega)) ?_ | refine LoopN.go ?_ | exact trivial | refine AltVC.mk ?_ ?_ | refine HeldVC.mk rfl ?_ | refine CallVC.pure h1 rfl ?_ | refine CallVC.pure h2 rfl ?_ | refine OpVC.more tt_ok ?_ | refine RestVC.ext tt_ok ?_)); all_goals (conv => whnf)
      all_goals exact RetVC.res rfl rfl
    | true =>
      rw [hb] at h2
      have hr := reached_spec w (few_ok ha).1 (by have := (few_ok ha).2; omega)
      (repeat' ((conv => whnf); first | refine CondVC.t ?_ | refine CondVC.f ?_ | refine CondVC.dec (fun h => ?_) (fun h => ?_) | refine CondVC.ndec (fun h => ?_) (fun h => ?_) | refine CondVC.mk (fun h => ?_) (fun h => ?_) | refine ArVC.i64 (by first | omega | (simp only; omega)) ?_ | refine SideVC.mk (by first | omega | decide | (simp only; omega) | (simp [slS]; done) | (simp [slS]; omega) | (simp only [byteE_len, mvE_len, strE_len, intE_len, esC_len, List.length_cons, List.length_nil, List.length_append, List.length_replicate, List.length_set, Int.toNat_natCast, and_true] at *; omega)) ?_ | refine LoopN.go ?_ | exact trivial | refine AltVC.mk ?_ ?_ | refine HeldVC.mk rfl ?_ | refine CallVC.pure h1 rfl ?_ | refine CallVC.pure h2 rfl ?_ | (refine CallVC.ex [] rfl hr ?_; intro ks hks; refine ⟨rfl, ?_⟩; have hkv := key_after (v := v) hks) | (refine LookVC.mk (fun x hx => ?_) (fun hx => ?_); obtain ⟨hxm, rfl⟩ := bE_some hx) | refine OpVC.more tt_ok ?_ | refine RestVC.ext tt_ok ?_)); all_goals (conv => whnf)
      · rcases hkv with ⟨a1, a2, a3⟩ | ⟨a1, a2⟩
        · refine RetVC.res ?_ rfl
          rw [decide_eq_true a2, a3]; rfl
        · exact absurd hxm a1
      · rcases hkv with ⟨a1, a2, a3⟩ | ⟨a1, a2⟩
        · exact absurd a1 (bE_none hx)
        · refine RetVC.res ?_ rfl
          rw [decide_eq_false a2]; rfl

theorem implCanReach_spec (w v : Tx) (hw : w.length ≤ 1048576) (hv : v.length ≤ 1048576) : Spec Tryd.prog 17 [.c (.str w), .c (.str v)] [] (isRes [vb (isBetF w v), vb (bothF w v)] []) := by
  have h1 := between_spec w v hw hv
  refine Spec.of_wpx tt_ok Tryd.func17 (by kernel_rfl) rfl ?_
  (repeat' ((conv => whnf); first | refine CondVC.t ?_ | refine CondVC.f ?_ | refine CondVC.dec (fun h => ?_) (fun h => ?_) | refine CondVC.ndec (fun h => ?_) (fun h => ?_) | refine CondVC.mk (fun h => ?_) (fun h => ?_) | refine ArVC.i64 (by first | omega | (simp only; omega)) ?_ | refine SideVC.mk (by first | omega | decide | (simp only; omega) | (simp [slS]; done) | (simp [slS]; omega) | (simp only [byteE_len, mvE_len, strE_len, intE_len, esC_len, List.length_cons, List.length_nil, List.length_append, List.length_replicate, List.length_set, Int.toNat_natCast, and_true] at *; omega)) ?_ | refine LoopN.go ?_ | exact trivial | refine AltVC.mk ?_ ?_ | refine HeldVC.mk rfl ?_ | refine CallVC.pure h1 rfl ?_ | refine OpVC.more tt_ok ?_ | refine RestVC.ext tt_ok ?_)); all_goals (conv => whnf)
  all_goals exact RetVC.res rfl rfl
theorem specCanReach_spec (w v : Tx) (hw : w.length ≤ 1048576) (hv : v.length ≤ 1048576) : Spec Tryd.prog 16 [.c (.str w), .c (.str v)] [] (isRes [vb (isBetF w v), vb (bothF w v)] []) := by
  have h1 := reFew_spec w hw
  have h2 := reFew_spec v hv
  unfold isBetF bothF
  refine Spec.of_wpx tt_ok Tryd.func16 (by kernel_rfl) rfl ?_
  cases ha : lineOf w 10 with
  | false =>
    rw [ha] at h1
    (repeat' ((conv => whnf); first | refine CondVC.t ?_ | refine CondVC.f ?_ | refine CondVC.dec (fun h => ?_) (fun h => ?_) | refine CondVC.ndec (fun h => ?_) (fun h => ?_) | refine CondVC.mk (fun h => ?_) (fun h => ?_) | refine ArVC.i64 (by first | omega | (simp only; omega)) ?_ | refine SideVC.mk (by first | omega | decide | (simp only; omega) | (simp [slS]; done) | (simp [slS]; omega) | (simp only [byteE_len, mvE_len, strE_len, intE_len, esC_len, List.length_cons, List.length_nil, List.length_append, List.length_replicate, List.length_set, Int.toNat_natCast, and_true] at *; omega)) ?_ | refine LoopN.go ?_ | exact trivial | refine AltVC.mk ?_ ?_ | refine HeldVC.mk rfl ?_ | refine CallVC.pure h1 rfl ?_ | refine OpVC.more tt_ok ?_ | refine RestVC.ext tt_ok ?_)); all_goals (conv => whnf)
    all_goals exact RetVC.res rfl rfl
  | true =>
    rw [ha] at h1
    have hr := reAfter_spec w v (few_ok ha).1 (by have := (few_ok ha).2; omega)
    cases hb : lineOf v 10
    all_goals
      rw [hb] at h2
      (repeat' ((conv => whnf); first | refine CondVC.t ?_ | refine CondVC.f ?_ | refine CondVC.dec (fun h => ?_) (fun h => ?_) | refine CondVC.ndec (fun h => ?_) (fun h => ?_) | refine CondVC.mk (fun h => ?_) (fun h => ?_) | refine ArVC.i64 (by first | omega | (simp only; omega)) ?_ | refine SideVC.mk (by first | omega | decide | (simp only; omega) | (simp [slS]; done) | (simp [slS]; omega) | (simp only [byteE_len, mvE_len, strE_len, intE_len, esC_len, List.length_cons, List.length_nil, List.length_append, List.length_replicate, List.length_set, Int.toNat_natCast, and_true] at *; omega)) ?_ | refine LoopN.go ?_ | exact trivial | refine AltVC.mk ?_ ?_ | refine HeldVC.mk rfl ?_ | refine CallVC.pure h1 rfl ?_ | refine CallVC.pure h2 rfl ?_ | refine CallVC.pure hr rfl ?_ | refine OpVC.more tt_ok ?_ | refine RestVC.ext tt_ok ?_)); all_goals (conv => whnf)
      all_goals exact RetVC.res rfl rfl
theorem lawCanReach_spec (w : Tx) (hw : w.length ≤ 9223372036854775807) (v : Tx) (hv : v.length ≤ 9223372036854775807) : Spec Tryd.prog 4 [.c (.str w), .c (.str v)] [] (isRes [vb true] []) := by
  refine Spec.of_wpx tt_ok Tryd.func4 (by kernel_rfl) rfl ?_
  (repeat' ((conv => whnf); first | refine CondVC.t ?_ | refine CondVC.f ?_ | refine CondVC.dec (fun h => ?_) (fun h => ?_) | refine CondVC.ndec (fun h => ?_) (fun h => ?_) | refine CondVC.mk (fun h => ?_) (fun h => ?_) | refine ArVC.i64 (by first | omega | (simp only; omega)) ?_ | refine SideVC.mk (by first | omega | decide | (simp only; omega) | (simp [slS]; done) | (simp [slS]; omega) | (simp only [byteE_len, mvE_len, strE_len, intE_len, esC_len, List.length_cons, List.length_nil, List.length_append, List.length_replicate, List.length_set, Int.toNat_natCast, and_true] at *; omega)) ?_ | refine LoopN.go ?_ | exact trivial | refine AltVC.mk ?_ ?_ | refine HeldVC.mk rfl ?_ | refine CallVC.pure (specCanReach_spec w v (by omega) (by omega)) rfl ?_ | refine CallVC.pure (implCanReach_spec w v (by omega) (by omega)) rfl ?_ | refine OpVC.more tt_ok ?_ | refine RestVC.ext tt_ok ?_)); all_goals (conv => whnf)
  all_goals first | exact RetVC.res rfl rfl | (exfalso; simp_all; done)

theorem implMovesBetween_spec (w v : Tx) (hw : w.length ≤ 1048576) (hv : v.length ≤ 1048576) : Spec Tryd.prog 19 [.c (.str w), .c (.str v)] [] (isRes [i64 (betF w v), vb (isBetF w v)] []) := by
  have h1 := between_spec w v hw hv
  refine Spec.of_wpx tt_ok Tryd.func19 (by kernel_rfl) rfl ?_
  (repeat' ((conv => whnf); first | refine CondVC.t ?_ | refine CondVC.f ?_ | refine CondVC.dec (fun h => ?_) (fun h => ?_) | refine CondVC.ndec (fun h => ?_) (fun h => ?_) | refine CondVC.mk (fun h => ?_) (fun h => ?_) | refine ArVC.i64 (by first | omega | (simp only; omega)) ?_ | refine SideVC.mk (by first | omega | decide | (simp only; omega) | (simp [slS]; done) | (simp [slS]; omega) | (simp only [byteE_len, mvE_len, strE_len, intE_len, esC_len, List.length_cons, List.length_nil, List.length_append, List.length_replicate, List.length_set, Int.toNat_natCast, and_true] at *; omega)) ?_ | refine LoopN.go ?_ | exact trivial | refine AltVC.mk ?_ ?_ | refine HeldVC.mk rfl ?_ | refine CallVC.pure h1 rfl ?_ | refine OpVC.more tt_ok ?_ | refine RestVC.ext tt_ok ?_)); all_goals (conv => whnf)
  all_goals exact RetVC.res rfl rfl
theorem specMovesBetween_spec (w v : Tx) (hw : w.length ≤ 1048576) (hv : v.length ≤ 1048576) : Spec Tryd.prog 18 [.c (.str w), .c (.str v)] [] (isRes [i64 (betF w v), vb (isBetF w v)] []) := by
  have h1 := reFew_spec w hw
  have h2 := reFew_spec v hv
  unfold betF isBetF bothF
  refine Spec.of_wpx tt_ok Tryd.func18 (by kernel_rfl) rfl ?_
  cases ha : lineOf w 10 with
  | false =>
    rw [ha] at h1
    (repeat' ((conv => whnf); first | refine CondVC.t ?_ | refine CondVC.f ?_ | refine CondVC.dec (fun h => ?_) (fun h => ?_) | refine CondVC.ndec (fun h => ?_) (fun h => ?_) | refine CondVC.mk (fun h => ?_) (fun h => ?_) | refine ArVC.i64 (by first | omega | (simp only; omega)) ?_ | refine SideVC.mk (by first | omega | decide | (simp only; omega) | (simp [slS]; done) | (simp [slS]; omega) | (simp only [byteE_len, mvE_len, strE_len, intE_len, esC_len, List.length_cons, List.length_nil, List.length_append, List.length_replicate, List.length_set, Int.toNat_natCast, and_true] at *; omega)) ?_ | refine LoopN.go ?_ | exact trivial | refine AltVC.mk ?_ ?_ | refine HeldVC.mk rfl ?_ | refine CallVC.pure h1 rfl ?_ | refine OpVC.more tt_ok ?_ | refine RestVC.ext tt_ok ?_)); all_goals (conv => whnf)
    all_goals exact RetVC.res rfl rfl
  | true =>
    rw [ha] at h1
    have hr := reAfter_spec w v (few_ok ha).1 (by have := (few_ok ha).2; omega)
    cases hb : lineOf v 10 with
    | false =>
      rw [hb] at h2
      (repeat' ((conv => whnf); first | refine CondVC.t ?_ | refine CondVC.f ?_ | refine CondVC.dec (fun h => ?_) (fun h => ?_) | refine CondVC.ndec (fun h => ?_) (fun h => ?_) | refine CondVC.mk (fun h => ?_) (fun h => ?_) | refine ArVC.i64 (by first | omega | (simp only; omega)) ?_ | refine SideVC.mk (by first | omega | decide | (simp only; omega) | (simp [slS]; done) | (simp [slS]; omega) | (simp only [byteE_len, mvE_len, strE_len, intE_len, esC_len, List.length_cons, List.length_nil, List.length_append, List.length_replicate, List.length_set, Int.toNat_natCast, and_true] at *; omega)) ?_ | refine LoopN.go ?_ | exact trivial | refine AltVC.mk ?_ ?_ | refine HeldVC.mk rfl ?_ | refine CallVC.pure h1 rfl ?_ | refine CallVC.pure h2 rfl ?_ | refine CallVC.pure hr rfl ?_ | refine OpVC.more tt_ok ?_ | refine RestVC.ext tt_ok ?_)); all_goals (conv => whnf)
      all_goals exact RetVC.res rfl rfl
    | true =>
      rw [hb] at h2
      by_cases hge : 0 ≤ afterF w v
      · (repeat' ((conv => whnf); first | refine CondVC.t ?_ | refine CondVC.f ?_ | refine CondVC.dec (fun h => ?_) (fun h => ?_) | refine CondVC.ndec (fun h => ?_) (fun h => ?_) | refine CondVC.mk (fun h => ?_) (fun h => ?_) | refine ArVC.i64 (by first | omega | (simp only; omega)) ?_ | refine SideVC.mk (by first | omega | decide | (simp only; omega) | (simp [slS]; done) | (simp [slS]; omega) | (simp only [byteE_len, mvE_len, strE_len, intE_len, esC_len, List.length_cons, List.length_nil, List.length_append, List.length_replicate, List.length_set, Int.toNat_natCast, and_true] at *; omega)) ?_ | refine LoopN.go ?_ | exact trivial | refine AltVC.mk ?_ ?_ | refine HeldVC.mk rfl ?_ | refine CallVC.pure h1 rfl ?_ | refine CallVC.pure h2 rfl ?_ | refine CallVC.pure hr rfl ?_ | refine OpVC.more tt_ok ?_ | refine RestVC.ext tt_ok ?_)); all_goals (conv => whnf)
        all_goals first
          | (exfalso; omega)
          | (refine RetVC.res ?_ rfl; rw [decide_eq_true hge]; rfl)
      · (repeat' ((conv => whnf); first | refine CondVC.t ?_ | refine CondVC.f ?_ | refine CondVC.dec (fun h => ?_) (fun h => ?_) | refine CondVC.ndec (fun h => ?_) (fun h => ?_) | refine CondVC.mk (fun h => ?_) (fun h => ?_) | refine ArVC.i64 (by first | omega | (simp only; omega)) ?_ | refine SideVC.mk (by first | omega | decide | (simp only; omega) | (simp [slS]; done) | (simp [slS]; omega) | (simp only [byteE_len, mvE_len, strE_len, intE_len, esC_len, List.length_cons, List.length_nil, List.length_append, List.length_replicate, List.length_set, Int.toNat_natCast, and_true] at *; omega)) ?_ | refine LoopN.go ?_ | exact trivial | refine AltVC.mk ?_ ?_ | refine HeldVC.mk rfl ?_ | refine CallVC.pure h1 rfl ?_ | refine CallVC.pure h2 rfl ?_ | refine CallVC.pure hr rfl ?_ | refine OpVC.more tt_ok ?_ | refine RestVC.ext tt_ok ?_)); all_goals (conv => whnf)
        all_goals first
          | (exfalso; omega)
          | (refine RetVC.res ?_ rfl; rw [decide_eq_false hge]; rfl)
theorem lawMovesBetween_spec (w : Tx) (hw : w.length ≤ 9223372036854775807) (v : Tx) (hv : v.length ≤ 9223372036854775807) : Spec Tryd.prog 5 [.c (.str w), .c (.str v)] [] (isRes [vb true] []) := by
  refine Spec.of_wpx tt_ok Tryd.func5 (by kernel_rfl) rfl ?_
  (repeat' ((conv => whnf); first | refine CondVC.t ?_ | refine CondVC.f ?_ | refine CondVC.dec (fun h => ?_) (fun h => ?_) | refine CondVC.ndec (fun h => ?_) (fun h => ?_) | refine CondVC.mk (fun h => ?_) (fun h => ?_) | refine ArVC.i64 (by first | omega | (simp only; omega)) ?_ | refine SideVC.mk (by first | omega | decide | (simp only; omega) | (simp [slS]; done) | (simp [slS]; omega) | (simp only [byteE_len, mvE_len, strE_len, intE_len, esC_len, List.length_cons, List.length_nil, List.length_append, List.length_replicate, List.length_set, Int.toNat_natCast, and_true] at *; omega)) ?_ | refine LoopN.go ?_ | exact trivial | refine AltVC.mk ?_ ?_ | refine HeldVC.mk rfl ?_ | refine CallVC.pure (specMovesBetween_spec w v (by omega) (by omega)) rfl ?_ | refine CallVC.pure (implMovesBetween_spec w v (by omega) (by omega)) rfl ?_ | refine OpVC.more tt_ok ?_ | refine RestVC.ext tt_ok ?_)); all_goals (conv => whnf)
  all_goals first | exact RetVC.res rfl rfl | (exfalso; simp_all; done)

theorem rep_specL (c : UInt8) (n : Nat) (hn : n ≤ 1048576) : Spec Tryd.prog 101 [.c (.str [c]), i64 n] [] (isRes [.c (.str (rep [c] n))] []) := by
  rw [← repeatL_rep]
  exact repeat_spec [c] n (by simp only [List.length_cons, List.length_nil]; omega) (by omega)
theorem orderedL_spec (x y z : Nat) (hx : x ≤ 1048576) (hy : y ≤ 1048576) (hz : z ≤ 1048576) :
    Spec Tryd.prog 79 [.c (.int .u8 70), i64 x, i64 y, .c (.int .u8 84), i64 z] [] (isRes [.c (.str (rep [70] x ++ rep [46] y ++ rep [84] z))] []) := by
  have h1 := rep_specL 70 x (by omega)
  have h2 := rep_specL 46 y (by omega)
  have h3 := rep_specL 84 z (by omega)
  have l1 := rep_len [70] x
  have l2 := rep_len [46] y
  have l3 := rep_len [84] z
  simp only [List.length_cons, List.length_nil, Nat.zero_add, Nat.mul_one] at l1 l2 l3
  generalize rep [70] x = a at *
  generalize rep [46] y = b at *
  generalize rep [84] z = c at *
  rw [← enc70] at h1
  rw [← enc84] at h3
  refine Spec.of_wpx tt_ok Tryd.func79 (by kernel_rfl) rfl ?_
  (repeat' ((conv => whnf); first | refine CondVC.t ?_ | refine CondVC.f ?_ | refine CondVC.dec (fun h => ?_) (fun h => ?_) | refine CondVC.ndec (fun h => ?_) (fun h => ?_) | refine CondVC.mk (fun h => ?_) (fun h => ?_) | refine ArVC.i64 (by first | omega | (simp only; omega)) ?_ | refine SideVC.mk (by first | omega | decide | (simp only; omega) | (simp [slS]; done) | (simp [slS]; omega) | (simp only [byteE_len, mvE_len, strE_len, intE_len, esC_len, List.length_cons, List.length_nil, List.length_append, List.length_replicate, List.length_set, Int.toNat_natCast, and_true] at *; omega)) ?_ | refine LoopN.go ?_ | exact trivial | refine AltVC.mk ?_ ?_ | refine HeldVC.mk rfl ?_ | refine CallVC.pure h1 rfl ?_ | refine CallVC.pure h2 rfl ?_ | refine CallVC.pure h3 rfl ?_ | refine SideVC.mk (by simp at *; omega) ?_ | refine OpVC.more tt_ok ?_ | refine RestVC.ext tt_ok ?_)); all_goals (conv => whnf)
  all_goals exact RetVC.res rfl rfl
theorem lastL_spec (w : Tx) (hw : w.length ≤ 1048576) : Spec Tryd.prog 47 [.c (.str w)] [] (isRes [.c (.str (lastF w))] []) := by
  have hc := count3_le w
  have h1 := implCount_spec w
  have h2 := orderedL_spec (w.count 70) (w.count 46) (w.count 84) (by omega) (by omega) (by omega)
  unfold lastF
  generalize rep [70] (w.count 70) ++ rep [46] (w.count 46) ++ rep [84] (w.count 84) = a at *
  generalize w.count 70 = x at *
  generalize w.count 46 = y at *
  generalize w.count 84 = z at *
  refine Spec.of_wpx tt_ok Tryd.func47 (by kernel_rfl) rfl ?_
  (repeat' ((conv => whnf); first | refine CondVC.t ?_ | refine CondVC.f ?_ | refine CondVC.dec (fun h => ?_) (fun h => ?_) | refine CondVC.ndec (fun h => ?_) (fun h => ?_) | refine CondVC.mk (fun h => ?_) (fun h => ?_) | refine ArVC.i64 (by first | omega | (simp only; omega)) ?_ | refine SideVC.mk (by first | omega | decide | (simp only; omega) | (simp [slS]; done) | (simp [slS]; omega) | (simp only [byteE_len, mvE_len, strE_len, intE_len, esC_len, List.length_cons, List.length_nil, List.length_append, List.length_replicate, List.length_set, Int.toNat_natCast, and_true] at *; omega)) ?_ | refine LoopN.go ?_ | exact trivial | refine AltVC.mk ?_ ?_ | refine HeldVC.mk rfl ?_ | refine CallVC.pure h1 rfl ?_ | refine CallVC.pure h2 rfl ?_ | refine OpVC.more tt_ok ?_ | refine RestVC.ext tt_ok ?_)); all_goals (conv => whnf)
  all_goals exact RetVC.res rfl rfl
theorem lastF_le (w : Tx) : (lastF w).length ≤ w.length := by
  have hc := count3_le w
  have l1 := rep_len [70] (w.count 70)
  have l2 := rep_len [46] (w.count 46)
  have l3 := rep_len [84] (w.count 84)
  simp only [List.length_cons, List.length_nil, Nat.zero_add, Nat.mul_one] at l1 l2 l3
  unfold lastF
  simp only [List.length_append]
  omega
theorem all_rep {c : UInt8} (n : Nat) (h : okCh c = true) : (rep [c] n).all okCh = true := by
  unfold rep
  rw [List.all_eq_true]
  intro x hx
  obtain ⟨l, hl, hxl⟩ := List.mem_flatten.1 hx
  have := (List.mem_replicate.1 hl).2
  subst this
  simp only [List.mem_singleton] at hxl
  rw [hxl]; exact h
theorem count3_ok {w : Tx} (h : w.all okCh = true) : w.count 70 + w.count 46 + w.count 84 = w.length := by
  induction w with
  | nil => rfl
  | cons c w ih =>
    simp only [List.all_cons, Bool.and_eq_true] at h
    have := ih h.2
    have hc := h.1
    simp only [okCh, Bool.or_eq_true, decide_eq_true_eq, beq_iff_eq] at hc
    simp only [List.count_cons, List.length_cons]
    rcases hc with hc | hc | hc <;> subst hc <;> simp <;> omega
theorem last_few {w : Tx} (h : lineOf w 10 = true) : lineOf (lastF w) 10 = true := by
  have h' := h
  unfold lineOf at h' ⊢
  simp only [Bool.and_eq_true, decide_eq_true_eq] at h' ⊢
  have hl : (lastF w).length = w.length := by
    have hc := count3_ok h'.2
    have l1 := rep_len [70] (w.count 70)
    have l2 := rep_len [46] (w.count 46)
    have l3 := rep_len [84] (w.count 84)
    simp only [List.length_cons, List.length_nil, Nat.zero_add, Nat.mul_one] at l1 l2 l3
    unfold lastF
    simp only [List.length_append]
    omega
  refine ⟨by omega, ?_⟩
  unfold lastF
  simp only [List.all_append, Bool.and_eq_true]
  exact ⟨⟨all_rep _ rfl, all_rep _ rfl⟩, all_rep _ rfl⟩
theorem implCanFinish_spec (w : Tx) (hw : w.length ≤ 1048576) : Spec Tryd.prog 21 [.c (.str w)] [] (isRes [vb (isBetF w (lastF w)), vb (lineOf w 10)] []) := by
  have hl := lastF_le w
  have h1 := lastL_spec w hw
  have h2 := implCanReach_spec w (lastF w) (by omega) (by omega)
  have e : bothF w (lastF w) = lineOf w 10 := by
    unfold bothF
    cases h : lineOf w 10
    · rfl
    · rw [last_few h]; rfl
  rw [e] at h2
  refine Spec.of_wpx tt_ok Tryd.func21 (by kernel_rfl) rfl ?_
  (repeat' ((conv => whnf); first | refine CondVC.t ?_ | refine CondVC.f ?_ | refine CondVC.dec (fun h => ?_) (fun h => ?_) | refine CondVC.ndec (fun h => ?_) (fun h => ?_) | refine CondVC.mk (fun h => ?_) (fun h => ?_) | refine ArVC.i64 (by first | omega | (simp only; omega)) ?_ | refine SideVC.mk (by first | omega | decide | (simp only; omega) | (simp [slS]; done) | (simp [slS]; omega) | (simp only [byteE_len, mvE_len, strE_len, intE_len, esC_len, List.length_cons, List.length_nil, List.length_append, List.length_replicate, List.length_set, Int.toNat_natCast, and_true] at *; omega)) ?_ | refine LoopN.go ?_ | exact trivial | refine AltVC.mk ?_ ?_ | refine HeldVC.mk rfl ?_ | refine CallVC.pure h1 rfl ?_ | refine CallVC.pure h2 rfl ?_ | refine OpVC.more tt_ok ?_ | refine RestVC.ext tt_ok ?_)); all_goals (conv => whnf)
  all_goals exact RetVC.res rfl rfl
theorem specCanFinish_spec (w : Tx) (hw : w.length ≤ 1048576) : Spec Tryd.prog 20 [.c (.str w)] [] (isRes [vb (isBetF w (lastF w)), vb (lineOf w 10)] []) := by
  have h1 := reFew_spec w (by omega)
  unfold isBetF bothF
  refine Spec.of_wpx tt_ok Tryd.func20 (by kernel_rfl) rfl ?_
  cases ha : lineOf w 10 with
  | false =>
    rw [ha] at h1
    (repeat' ((conv => whnf); first | refine CondVC.t ?_ | refine CondVC.f ?_ | refine CondVC.dec (fun h => ?_) (fun h => ?_) | refine CondVC.ndec (fun h => ?_) (fun h => ?_) | refine CondVC.mk (fun h => ?_) (fun h => ?_) | refine ArVC.i64 (by first | omega | (simp only; omega)) ?_ | refine SideVC.mk (by first | omega | decide | (simp only; omega) | (simp [slS]; done) | (simp [slS]; omega) | (simp only [byteE_len, mvE_len, strE_len, intE_len, esC_len, List.length_cons, List.length_nil, List.length_append, List.length_replicate, List.length_set, Int.toNat_natCast, and_true] at *; omega)) ?_ | refine LoopN.go ?_ | exact trivial | refine AltVC.mk ?_ ?_ | refine HeldVC.mk rfl ?_ | refine CallVC.pure h1 rfl ?_ | refine OpVC.more tt_ok ?_ | refine RestVC.ext tt_ok ?_)); all_goals (conv => whnf)
    all_goals exact RetVC.res rfl rfl
  | true =>
    rw [ha] at h1
    rw [last_few ha]
    have h2 := liLast_spec w (by have := (few_ok ha).2; omega)
    have hr := reAfter_spec w (lastF w) (few_ok ha).1 (by have := (few_ok ha).2; omega)
    (repeat' ((conv => whnf); first | refine CondVC.t ?_ | refine CondVC.f ?_ | refine CondVC.dec (fun h => ?_) (fun h => ?_) | refine CondVC.ndec (fun h => ?_) (fun h => ?_) | refine CondVC.mk (fun h => ?_) (fun h => ?_) | refine ArVC.i64 (by first | omega | (simp only; omega)) ?_ | refine SideVC.mk (by first | omega | decide | (simp only; omega) | (simp [slS]; done) | (simp [slS]; omega) | (simp only [byteE_len, mvE_len, strE_len, intE_len, esC_len, List.length_cons, List.length_nil, List.length_append, List.length_replicate, List.length_set, Int.toNat_natCast, and_true] at *; omega)) ?_ | refine LoopN.go ?_ | exact trivial | refine AltVC.mk ?_ ?_ | refine HeldVC.mk rfl ?_ | refine CallVC.pure h1 rfl ?_ | refine CallVC.pure h2 rfl ?_ | refine CallVC.pure hr rfl ?_ | refine OpVC.more tt_ok ?_ | refine RestVC.ext tt_ok ?_)); all_goals (conv => whnf)
    all_goals exact RetVC.res rfl rfl
theorem lawCanFinish_spec (w : Tx) (hw : w.length ≤ 9223372036854775807) : Spec Tryd.prog 6 [.c (.str w)] [] (isRes [vb true] []) := by
  refine Spec.of_wpx tt_ok Tryd.func6 (by kernel_rfl) rfl ?_
  (repeat' ((conv => whnf); first | refine CondVC.t ?_ | refine CondVC.f ?_ | refine CondVC.dec (fun h => ?_) (fun h => ?_) | refine CondVC.ndec (fun h => ?_) (fun h => ?_) | refine CondVC.mk (fun h => ?_) (fun h => ?_) | refine ArVC.i64 (by first | omega | (simp only; omega)) ?_ | refine SideVC.mk (by first | omega | decide | (simp only; omega) | (simp [slS]; done) | (simp [slS]; omega) | (simp only [byteE_len, mvE_len, strE_len, intE_len, esC_len, List.length_cons, List.length_nil, List.length_append, List.length_replicate, List.length_set, Int.toNat_natCast, and_true] at *; omega)) ?_ | refine LoopN.go ?_ | exact trivial | refine AltVC.mk ?_ ?_ | refine HeldVC.mk rfl ?_ | refine CallVC.pure (specCanFinish_spec w (by omega)) rfl ?_ | refine CallVC.pure (implCanFinish_spec w (by omega)) rfl ?_ | refine OpVC.more tt_ok ?_ | refine RestVC.ext tt_ok ?_)); all_goals (conv => whnf)
  all_goals first | exact RetVC.res rfl rfl | (exfalso; simp_all; done)
end Go.Proofs.YtnekgpjgekakkaaDoor.X
