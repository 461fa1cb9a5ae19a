/- Desks: the program's and the reference's. No condition beyond the statement's. -/
import Derived.Test.YtkieakmonaafbaaDoorLine
import Derived.Test.YtkieakmonaafbaaDoorExt
namespace Go.Proofs.YtkieakmonaafbaaDoor.X
open Go.Proofs
set_option maxRecDepth 100000
set_option linter.unusedVariables false
set_option linter.unusedSimpArgs false

def deskV (a b : Tx) : V := .agg [.str a, .str b]
def szDeskF (a b : Tx) : Int := if 1048576 - (a.length : Int) < 0 then -1 else if 1048576 - (a.length : Int) - (b.length : Int) < 0 then -1 else 1048576 - (a.length : Int) - (b.length : Int)
theorem szDesk_spec (a b : Tx) (ha : a.length ≤ 9223372036854775807) (hb : b.length ≤ 9223372036854775807) : Spec Tryd.prog 26 [deskV a b, i64 1048576] [] (isRes [i64 (szDeskF a b)] []) := by
  unfold deskV szDeskF
  refine Spec.of_wpx tt_ok Tryd.func26 (by kernel_rfl) rfl ?_
  (repeat' ((conv => whnf); first | refine CondVC.t ?_ | refine CondVC.f ?_ | refine CondVC.dec (fun h => ?_) (fun h => ?_) | refine CondVC.ndec (fun h => ?_) (fun h => ?_) | refine CondVC.mk (fun h => ?_) (fun h => ?_) | refine ArVC.i64 (by first | omega | (simp only; omega)) ?_ | refine SideVC.mk (by first | omega | decide | (simp only; omega) | (simp [slS]; done) | (simp [slS]; omega) | (simp only [byteE_len, mvE_len, strE_len, intE_len, esC_len, List.length_cons, List.length_nil, List.length_append, List.length_replicate, List.length_set, Int.toNat_natCast, and_true] at *; omega)) ?_ | refine LoopN.go ?_ | exact trivial | refine AltVC.mk ?_ ?_ | refine HeldVC.mk rfl ?_ | refine OpVC.more tt_ok ?_ | refine RestVC.ext tt_ok ?_)); all_goals (conv => whnf)
  all_goals first
    | (refine RetVC.res ?_ rfl; rw [if_pos (by assumption)]; rfl)
    | (refine RetVC.res ?_ rfl; rw [if_neg (by assumption), if_pos (by assumption)]; rfl)
    | (refine RetVC.res ?_ rfl; rw [if_neg (by assumption), if_neg (by assumption)]; rfl)
    | (exfalso; omega)
theorem toDesk_spec (a b : Tx) : Spec Tryd.prog 28 [deskV a b] [] (isRes [deskV a b] []) := by
  unfold deskV
  refine Spec.of_wpx tt_ok Tryd.func28 (by kernel_rfl) rfl ?_
  (repeat' ((conv => whnf); first | refine CondVC.t ?_ | refine CondVC.f ?_ | refine CondVC.dec (fun h => ?_) (fun h => ?_) | refine CondVC.ndec (fun h => ?_) (fun h => ?_) | refine CondVC.mk (fun h => ?_) (fun h => ?_) | refine ArVC.i64 (by first | omega | (simp only; omega)) ?_ | refine SideVC.mk (by first | omega | decide | (simp only; omega) | (simp [slS]; done) | (simp [slS]; omega) | (simp only [byteE_len, mvE_len, strE_len, intE_len, esC_len, List.length_cons, List.length_nil, List.length_append, List.length_replicate, List.length_set, Int.toNat_natCast, and_true] at *; omega)) ?_ | refine LoopN.go ?_ | exact trivial | refine AltVC.mk ?_ ?_ | refine HeldVC.mk rfl ?_ | refine OpVC.more tt_ok ?_ | refine RestVC.ext tt_ok ?_)); all_goals (conv => whnf)
  all_goals exact RetVC.res rfl rfl
theorem coGood_spec (a b : Tx) (ha : a.length ≤ 1099511627776) (hb : b.length ≤ 1099511627776) : Spec Tryd.prog 94 [deskV a b] [] (isRes [vb (lineOf a 12 && lineOf b 12)] []) := by
  have h1 := liGood_spec a ha
  have h2 := liGood_spec b hb
  unfold deskV
  refine Spec.of_wpx tt_ok Tryd.func94 (by kernel_rfl) rfl ?_
  cases hl : lineOf a 12
  all_goals
    rw [hl] at h1
    (repeat' ((conv => whnf); first | refine CondVC.t ?_ | refine CondVC.f ?_ | refine CondVC.dec (fun h => ?_) (fun h => ?_) | refine CondVC.ndec (fun h => ?_) (fun h => ?_) | refine CondVC.mk (fun h => ?_) (fun h => ?_) | refine ArVC.i64 (by first | omega | (simp only; omega)) ?_ | refine SideVC.mk (by first | omega | decide | (simp only; omega) | (simp [slS]; done) | (simp [slS]; omega) | (simp only [byteE_len, mvE_len, strE_len, intE_len, esC_len, List.length_cons, List.length_nil, List.length_append, List.length_replicate, List.length_set, Int.toNat_natCast, and_true] at *; omega)) ?_ | refine LoopN.go ?_ | exact trivial | refine AltVC.mk ?_ ?_ | refine HeldVC.mk rfl ?_ | refine CallVC.pure h1 rfl ?_ | refine CallVC.pure h2 rfl ?_ | refine OpVC.more tt_ok ?_ | refine RestVC.ext tt_ok ?_)); all_goals (conv => whnf)
    all_goals exact RetVC.res rfl rfl
theorem specIsDesk_spec (a b : Tx) (ha : a.length ≤ 1099511627776) (hb : b.length ≤ 1099511627776) : Spec Tryd.prog 27 [deskV a b] [] (isRes [vb (lineOf a 12 && lineOf b 12)] []) := by
  have h1 := coGood_spec a b ha hb
  unfold deskV at *
  refine Spec.of_wpx tt_ok Tryd.func27 (by kernel_rfl) rfl ?_
  (repeat' ((conv => whnf); first | refine CondVC.t ?_ | refine CondVC.f ?_ | refine CondVC.dec (fun h => ?_) (fun h => ?_) | refine CondVC.ndec (fun h => ?_) (fun h => ?_) | refine CondVC.mk (fun h => ?_) (fun h => ?_) | refine ArVC.i64 (by first | omega | (simp only; omega)) ?_ | refine SideVC.mk (by first | omega | decide | (simp only; omega) | (simp [slS]; done) | (simp [slS]; omega) | (simp only [byteE_len, mvE_len, strE_len, intE_len, esC_len, List.length_cons, List.length_nil, List.length_append, List.length_replicate, List.length_set, Int.toNat_natCast, and_true] at *; omega)) ?_ | refine LoopN.go ?_ | exact trivial | refine AltVC.mk ?_ ?_ | refine HeldVC.mk rfl ?_ | refine CallVC.pure h1 rfl ?_ | refine OpVC.more tt_ok ?_ | refine RestVC.ext tt_ok ?_)); all_goals (conv => whnf)
  all_goals exact RetVC.res rfl rfl
theorem implIsDesk_spec (a b : Tx) (ha : a.length ≤ 1099511627776) (hb : b.length ≤ 1099511627776) : Spec Tryd.prog 29 [deskV a b] [] (isRes [vb (lineOf a 12 && lineOf b 12)] []) := by
  have h1 := isLine_spec a ha
  have h2 := isLine_spec b hb
  unfold deskV
  refine Spec.of_wpx tt_ok Tryd.func29 (by kernel_rfl) rfl ?_
  cases hl : lineOf a 12
  all_goals
    rw [hl] at h1
    (repeat' ((conv => whnf); first | refine CondVC.t ?_ | refine CondVC.f ?_ | refine CondVC.dec (fun h => ?_) (fun h => ?_) | refine CondVC.ndec (fun h => ?_) (fun h => ?_) | refine CondVC.mk (fun h => ?_) (fun h => ?_) | refine ArVC.i64 (by first | omega | (simp only; omega)) ?_ | refine SideVC.mk (by first | omega | decide | (simp only; omega) | (simp [slS]; done) | (simp [slS]; omega) | (simp only [byteE_len, mvE_len, strE_len, intE_len, esC_len, List.length_cons, List.length_nil, List.length_append, List.length_replicate, List.length_set, Int.toNat_natCast, and_true] at *; omega)) ?_ | refine LoopN.go ?_ | exact trivial | refine AltVC.mk ?_ ?_ | refine HeldVC.mk rfl ?_ | refine CallVC.pure h1 rfl ?_ | refine CallVC.pure h2 rfl ?_ | refine OpVC.more tt_ok ?_ | refine RestVC.ext tt_ok ?_)); all_goals (conv => whnf)
    all_goals exact RetVC.res rfl rfl
theorem lawIsDesk_spec (a b : Tx) (ha : a.length ≤ 9223372036854775807) (hb : b.length ≤ 9223372036854775807) : Spec Tryd.prog 8 [deskV a b] [] (isRes [vb true] []) := by
  have hs := szDesk_spec a b ha hb
  have ht := toDesk_spec a b
  by_cases hneg : szDeskF a b < 0
  · generalize szDeskF a b = z at *
    unfold deskV at *
    refine Spec.of_wpx tt_ok Tryd.func8 (by kernel_rfl) rfl ?_
    (repeat' ((conv => whnf); first | refine CondVC.t ?_ | refine CondVC.f ?_ | refine CondVC.dec (fun h => ?_) (fun h => ?_) | refine CondVC.ndec (fun h => ?_) (fun h => ?_) | refine CondVC.mk (fun h => ?_) (fun h => ?_) | refine ArVC.i64 (by first | omega | (simp only; omega)) ?_ | refine SideVC.mk (by first | omega | decide | (simp only; omega) | (simp [slS]; done) | (simp [slS]; omega) | (simp only [byteE_len, mvE_len, strE_len, intE_len, esC_len, List.length_cons, List.length_nil, List.length_append, List.length_replicate, List.length_set, Int.toNat_natCast, and_true] at *; omega)) ?_ | refine LoopN.go ?_ | exact trivial | refine AltVC.mk ?_ ?_ | refine HeldVC.mk rfl ?_ | refine CallVC.pure hs rfl ?_ | refine OpVC.more tt_ok ?_ | refine RestVC.ext tt_ok ?_)); all_goals (conv => whnf)
    all_goals first | exact RetVC.res rfl rfl | (exfalso; omega)
  · have hle : a.length ≤ 1048576 ∧ b.length ≤ 1048576 := by
      unfold szDeskF at hneg
      by_cases h1 : 1048576 - (a.length : Int) < 0
      · rw [if_pos h1] at hneg; omega
      · rw [if_neg h1] at hneg
        by_cases h2 : 1048576 - (a.length : Int) - (b.length : Int) < 0
        · rw [if_pos h2] at hneg; omega
        · omega
    have h1 := specIsDesk_spec a b (by omega) (by omega)
    have h2 := implIsDesk_spec a b (by omega) (by omega)
    generalize (lineOf a 12 && lineOf b 12) = r at *
    generalize szDeskF a b = z at *
    unfold deskV at *
    refine Spec.of_wpx tt_ok Tryd.func8 (by kernel_rfl) rfl ?_
    (repeat' ((conv => whnf); first | refine CondVC.t ?_ | refine CondVC.f ?_ | refine CondVC.dec (fun h => ?_) (fun h => ?_) | refine CondVC.ndec (fun h => ?_) (fun h => ?_) | refine CondVC.mk (fun h => ?_) (fun h => ?_) | refine ArVC.i64 (by first | omega | (simp only; omega)) ?_ | refine SideVC.mk (by first | omega | decide | (simp only; omega) | (simp [slS]; done) | (simp [slS]; omega) | (simp only [byteE_len, mvE_len, strE_len, intE_len, esC_len, List.length_cons, List.length_nil, List.length_append, List.length_replicate, List.length_set, Int.toNat_natCast, and_true] at *; omega)) ?_ | refine LoopN.go ?_ | exact trivial | refine AltVC.mk ?_ ?_ | refine HeldVC.mk rfl ?_ | refine CallVC.pure hs rfl ?_ | refine CallVC.pure ht rfl ?_ | refine CallVC.pure h1 rfl ?_ | refine CallVC.pure h2 rfl ?_ | refine OpVC.more tt_ok ?_ | refine RestVC.ext tt_ok ?_)); all_goals (conv => whnf)
    all_goals first | exact RetVC.res rfl rfl | (exfalso; omega) | (exfalso; simp_all; done)
end Go.Proofs.YtkieakmonaafbaaDoor.X
