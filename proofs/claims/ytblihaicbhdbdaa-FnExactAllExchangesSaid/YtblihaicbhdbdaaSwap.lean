/- Exchanges: the program's and the reference's. No condition beyond each statement's. -/
import Derived.Test.YtblihaicbhdbdaaWays
import Derived.Test.YtblihaicbhdbdaaEnds
namespace Go.Proofs.Ytblihaicbhdbdaa.X
open Go.Proofs
set_option maxRecDepth 100000
set_option linter.unusedVariables false
set_option linter.unusedSimpArgs false

/-! ### Counting -/
theorem swapOf_spec (x y z : Nat) (h : 1 ≤ x + y + z ∧ x + y + z ≤ 8) : Spec Try.prog 42 [i64 x, i64 y, i64 z] []
    (exRes (okWays (lastF (firstF x y z))) (fun _ => [.c (.str (firstF x y z)), .agg [.str (lastF (firstF x y z)), .mp 1000], vb (decide (0 < wp (lastF (firstF x y z)) (firstF x y z)))]) (fun es => [(1000, .ext (.mp none es))])) := by
  have h1 := areCounts_spec x y z 8 (by omega)
  have e : numsF x y z 8 = true := by unfold numsF; rw [decide_eq_true_eq]; omega
  rw [e] at h1
  have h2 := implFirst_spec x y z (by omega) (by omega) (by omega)
  have hl := firstF_len x y z
  have h3 := implLast_spec (firstF x y z) (by omega)
  have h4 := to_spec (lastF (firstF x y z))
  have h5 := ways_all (lastF (firstF x y z)) (firstF x y z) (by omega) _ (okWays_one (lastF (firstF x y z)))
  generalize lastF (firstF x y z) = g at *
  generalize firstF x y z = w at *
  generalize wp g w = q at *
  generalize setM [] (C.str g) (i64 1) = m0 at *
  refine Spec.of_wpx tt_ok Try.func42 (by kernel_rfl) rfl ?_
  (repeat' ((conv => whnf); first | refine CondVC.t ?_ | refine CondVC.f ?_ | refine CondVC.dec (fun h => ?_) (fun h => ?_) | refine CondVC.ndec (fun h => ?_) (fun h => ?_) | refine CondVC.mk (fun h => ?_) (fun h => ?_) | refine ArVC.i64 (by first | omega | (simp only; omega)) ?_ | refine SideVC.mk (by first | omega | decide | (simp only; omega) | (simp [slS]; done) | (simp [slS]; omega) | (simp only [byteE_len, mvE_len, strE_len, intE_len, esC_len, List.length_cons, List.length_nil, List.length_append, List.length_replicate, List.length_set, Int.toNat_natCast, and_true] at *; omega)) ?_ | refine LoopN.go ?_ | exact trivial | refine AltVC.mk ?_ ?_ | refine HeldVC.mk rfl ?_ | refine CallVC.pure h1 rfl ?_ | refine CallVC.pure h2 rfl ?_ | refine CallVC.pure h3 rfl ?_ | refine CallVC.res [] rfl h4 rfl ?_ | refine DrawVC.tree (id := 5) tt_ok [10] tr42_5 (by kernel_rfl) (by kernel_rfl) rfl ?_ | (refine CallVC.ex [1000] rfl h5 ?_; intro es' hes'; refine ⟨rfl, ?_⟩) | refine OpVC.more tt_ok ?_ | refine RestVC.ext tt_ok ?_)); all_goals (conv => whnf)
  all_goals exact RetVC.mk rfl ⟨es', hes', rfl, rfl⟩
theorem swapOfNo_spec (x y z : Int) (h : numsF x y z 8 = false) : Spec Try.prog 42 [i64 x, i64 y, i64 z] []
    (isRes [.c (.str []), .agg [.str [], .val (.map none)], vb false] []) := by
  have h1 := areCounts_spec x y z 8 (by omega)
  rw [h] at h1
  refine Spec.of_wpx tt_ok Try.func42 (by kernel_rfl) rfl ?_
  (repeat' ((conv => whnf); first | refine CondVC.t ?_ | refine CondVC.f ?_ | refine CondVC.dec (fun h => ?_) (fun h => ?_) | refine CondVC.ndec (fun h => ?_) (fun h => ?_) | refine CondVC.mk (fun h => ?_) (fun h => ?_) | refine ArVC.i64 (by first | omega | (simp only; omega)) ?_ | refine SideVC.mk (by first | omega | decide | (simp only; omega) | (simp [slS]; done) | (simp [slS]; omega) | (simp only [byteE_len, mvE_len, strE_len, intE_len, esC_len, List.length_cons, List.length_nil, List.length_append, List.length_replicate, List.length_set, Int.toNat_natCast, and_true] at *; omega)) ?_ | refine LoopN.go ?_ | exact trivial | refine AltVC.mk ?_ ?_ | refine HeldVC.mk rfl ?_ | refine CallVC.pure h1 rfl ?_ | refine OpVC.more tt_ok ?_ | refine RestVC.ext tt_ok ?_)); all_goals (conv => whnf)
  all_goals exact RetVC.res rfl rfl

def countXF (x y z : Int) : Int := if numsF x y z 8 then wp (lastF (firstF x.toNat y.toNat z.toNat)) (firstF x.toNat y.toNat z.toNat) else 0
theorem implCountExchanges_spec (x y z : Int) : Spec Try.prog 41 [i64 x, i64 y, i64 z] [] (isRes [i64 (countXF x y z), vb (numsF x y z 8)] []) := by
  have h1 := areCounts_spec x y z 8 (by omega)
  unfold countXF
  refine Spec.of_wpx tt_ok Try.func41 (by kernel_rfl) rfl ?_
  cases hn : numsF x y z 8 with
  | true =>
    rw [hn] at h1
    obtain ⟨a, b, c, rfl, rfl, rfl, hge, hle⟩ := nums_cast hn
    rw [if_pos rfl]
    simp only [Int.toNat_natCast]
    have h2 := Spec.renE [(1000, 2000)] [(2000, 1000)] (swapOf_spec a b c ⟨hge, by omega⟩) (fun _ => rfl) (fun _ => rfl) rfl
    have hl := firstF_len a b c
    have h5 := ways_all (lastF (firstF a b c)) (firstF a b c) (by omega)
    unfold WaysS at h5
    generalize lastF (firstF a b c) = g at *
    generalize firstF a b c = w at *
    generalize wp g w = q at *
    have h6 := fun es hes => Spec.renE [(1000, 2000)] [(2000, 1000)] (h5 es hes) (fun _ => rfl) (fun _ => rfl) rfl
    (repeat' ((conv => whnf); first | refine CondVC.t ?_ | refine CondVC.f ?_ | refine CondVC.dec (fun h => ?_) (fun h => ?_) | refine CondVC.ndec (fun h => ?_) (fun h => ?_) | refine CondVC.mk (fun h => ?_) (fun h => ?_) | refine ArVC.i64 (by first | omega | (simp only; omega)) ?_ | refine SideVC.mk (by first | omega | decide | (simp only; omega) | (simp [slS]; done) | (simp [slS]; omega) | (simp only [byteE_len, mvE_len, strE_len, intE_len, esC_len, List.length_cons, List.length_nil, List.length_append, List.length_replicate, List.length_set, Int.toNat_natCast, and_true] at *; omega)) ?_ | refine LoopN.go ?_ | exact trivial | refine AltVC.mk ?_ ?_ | refine HeldVC.mk rfl ?_ | refine CallVC.pure h1 rfl ?_ | (refine CallVC.ex [] rfl h2 ?_; intro es' hes'; refine ⟨rfl, ?_⟩; have h6 := h6 es' hes') | (refine CallVC.ex [2000] rfl h6 ?_; intro es2 hes2; refine ⟨rfl, ?_⟩) | refine OpVC.more tt_ok ?_ | refine RestVC.ext tt_ok ?_)); all_goals (conv => whnf)
    all_goals exact RetVC.res rfl rfl
  | false =>
    rw [hn] at h1
    (repeat' ((conv => whnf); first | refine CondVC.t ?_ | refine CondVC.f ?_ | refine CondVC.dec (fun h => ?_) (fun h => ?_) | refine CondVC.ndec (fun h => ?_) (fun h => ?_) | refine CondVC.mk (fun h => ?_) (fun h => ?_) | refine ArVC.i64 (by first | omega | (simp only; omega)) ?_ | refine SideVC.mk (by first | omega | decide | (simp only; omega) | (simp [slS]; done) | (simp [slS]; omega) | (simp only [byteE_len, mvE_len, strE_len, intE_len, esC_len, List.length_cons, List.length_nil, List.length_append, List.length_replicate, List.length_set, Int.toNat_natCast, and_true] at *; omega)) ?_ | refine LoopN.go ?_ | exact trivial | refine AltVC.mk ?_ ?_ | refine HeldVC.mk rfl ?_ | refine CallVC.pure h1 rfl ?_ | refine OpVC.more tt_ok ?_ | refine RestVC.ext tt_ok ?_)); all_goals (conv => whnf)
    all_goals exact RetVC.res rfl rfl
end Go.Proofs.Ytblihaicbhdbdaa.X
