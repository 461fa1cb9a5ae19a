/- Games compared. No condition beyond each statement's. -/
import Derived.Test.YtjpabjmcooiflaaDoorGame
namespace Go.Proofs.YtjpabjmcooiflaaDoor.X
open Go.Proofs
set_option maxRecDepth 100000
set_option linter.unusedVariables false
set_option linter.unusedSimpArgs false

theorem other_ok (b : UInt8) : okCh (otherF b) = okCh b := by
  unfold otherF
  by_cases h1 : b = 84
  · subst h1; decide
  · rw [if_neg h1]
    by_cases h2 : b = 70
    · subst h2; decide
    · rw [if_neg h2]
theorem turned_line (w : Tx) (n : Int) : lineOf (turnedF w) n = lineOf w n := by
  unfold lineOf turnedF
  rw [List.length_map, List.length_reverse, List.all_map]
  congr 1
  have : (okCh ∘ otherF) = okCh := funext other_ok
  rw [this, List.all_reverse]
theorem turned_len (w : Tx) : (turnedF w).length = w.length := by simp [turnedF]
theorem sumOk_turned (w v : Tx) : sumOkF [w, turnedF v] = sumOkF [w, v] := by
  simp [sumOkF, sumF, turned_line, turned_len]

def cmpF (a b : Bool) : Tx := if a && b then [124] else if a then [62] else if b then [60] else [61]
def cmpAskF (w v : Tx) : Tx := if sumOkF [w, v] then cmpF (winF (joinF [w, turnedF v]) true) (winF (joinF [w, turnedF v]) false) else []
theorem gaCompare_spec (w v : Tx) (hv : v.all okCh = true) (hvl : v.length ≤ 1000) (hok : okLs [w, turnedF v]) : Spec Tryd.prog 59 [.c (.str w), .c (.str v)] []
    (isRes [.c (.str (cmpF (winF (joinF [w, turnedF v]) true) (winF (joinF [w, turnedF v]) false)))] []) := by
  have h1 := liOther_spec v hv (by omega)
  have h2 := Spec.ren [(1000, 8)] [(8, 1000)] (gaOutcome_spec [w, turnedF v] hok) rfl rfl rfl
  generalize turnedF v = v' at *
  generalize winF (joinF [w, v']) true = a at *
  generalize winF (joinF [w, v']) false = b at *
  refine Spec.of_wpx tt_ok Tryd.func59 (by kernel_rfl) rfl ?_
  cases a <;> cases b
  all_goals
    (repeat' ((conv => whnf); first | refine CondVC.t ?_ | refine CondVC.f ?_ | refine CondVC.dec (fun h => ?_) (fun h => ?_) | refine CondVC.ndec (fun h => ?_) (fun h => ?_) | refine CondVC.mk (fun h => ?_) (fun h => ?_) | refine ArVC.i64 (by omega) ?_ | refine SideVC.mk (by first | omega | decide | (simp [slS]; done) | (simp [slS]; omega) | (simp only [byteE_len, mvE_len, strE_len, intE_len, esC_len, List.length_cons, List.length_nil, List.length_append, List.length_replicate, List.length_set, Int.toNat_natCast, and_true] at *; omega)) ?_ | refine LoopN.go ?_ | exact trivial | refine AltVC.mk ?_ ?_ | refine HeldVC.mk rfl ?_ | refine CallVC.pure h1 rfl ?_ | refine CallVC.res [8] rfl h2 rfl ?_ | refine OpVC.more tt_ok ?_ | refine RestVC.ext tt_ok ?_)); all_goals (conv => whnf)
    all_goals first | exact RetVC.res rfl rfl | (exfalso; simp_all [outF]; done)
theorem specCompareGames_spec (w v : Tx) (hw : w.length ≤ 1048576) (hv : v.length ≤ 1048576) : Spec Tryd.prog 31 [.c (.str w), .c (.str v)] [] (isRes [.c (.str (cmpAskF w v)), vb (sumOkF [w, v])] []) := by
  have h1 := Spec.ren [(1000, 8)] [(8, 1000)] (gaSum_spec [w, v] (by simp) (by simp; exact ⟨hw, hv⟩)) rfl rfl rfl
  unfold cmpAskF
  refine Spec.of_wpx tt_ok Tryd.func31 (by kernel_rfl) rfl ?_
  cases hq : sumOkF [w, v] with
  | true =>
    rw [hq] at h1
    have hok := sumOk_ok hq
    have hok2 := sumOk_ok ((sumOk_turned w v).trans hq)
    have hvl := sumF_mem (ls := [w, v]) (w := v) (by simp)
    have h2 := gaCompare_spec w v (hok.1.1 v (by simp)) (by have := hok.1.2.1; omega) hok2.1
    rw [if_pos rfl]
    generalize cmpF (winF (joinF [w, turnedF v]) true) (winF (joinF [w, turnedF v]) false) = a at *
    (repeat' ((conv => whnf); first | refine CondVC.t ?_ | refine CondVC.f ?_ | refine CondVC.dec (fun h => ?_) (fun h => ?_) | refine CondVC.ndec (fun h => ?_) (fun h => ?_) | refine CondVC.mk (fun h => ?_) (fun h => ?_) | refine ArVC.i64 (by omega) ?_ | refine SideVC.mk (by first | omega | decide | (simp [slS]; done) | (simp [slS]; omega) | (simp only [byteE_len, mvE_len, strE_len, intE_len, esC_len, List.length_cons, List.length_nil, List.length_append, List.length_replicate, List.length_set, Int.toNat_natCast, and_true] at *; omega)) ?_ | refine LoopN.go ?_ | exact trivial | refine AltVC.mk ?_ ?_ | refine HeldVC.mk rfl ?_ | refine CallVC.res [8] rfl h1 rfl ?_ | refine CallVC.pure h2 rfl ?_ | refine OpVC.more tt_ok ?_ | refine RestVC.ext tt_ok ?_)); all_goals (conv => whnf)
    all_goals exact RetVC.res rfl rfl
  | false =>
    rw [hq] at h1
    (repeat' ((conv => whnf); first | refine CondVC.t ?_ | refine CondVC.f ?_ | refine CondVC.dec (fun h => ?_) (fun h => ?_) | refine CondVC.ndec (fun h => ?_) (fun h => ?_) | refine CondVC.mk (fun h => ?_) (fun h => ?_) | refine ArVC.i64 (by omega) ?_ | refine SideVC.mk (by first | omega | decide | (simp [slS]; done) | (simp [slS]; omega) | (simp only [byteE_len, mvE_len, strE_len, intE_len, esC_len, List.length_cons, List.length_nil, List.length_append, List.length_replicate, List.length_set, Int.toNat_natCast, and_true] at *; omega)) ?_ | refine LoopN.go ?_ | exact trivial | refine AltVC.mk ?_ ?_ | refine HeldVC.mk rfl ?_ | refine CallVC.res [8] rfl h1 rfl ?_ | refine OpVC.more tt_ok ?_ | refine RestVC.ext tt_ok ?_)); all_goals (conv => whnf)
    all_goals exact RetVC.res rfl rfl
theorem implCompareGames_spec (w v : Tx) (hw : w.length ≤ 1048576) (hv : v.length ≤ 1048576) : Spec Tryd.prog 32 [.c (.str w), .c (.str v)] [] (isRes [.c (.str (cmpAskF w v)), vb (sumOkF [w, v])] []) := by
  have h0 := turned_spec v (by omega)
  have h1 := Spec.ren [(1000, 13)] [(13, 1000)] (implOutcomeOfSum_spec [w, turnedF v] (by simp) (by simp [turned_len]; exact ⟨hw, hv⟩)) rfl rfl rfl
  unfold outAskF at h1
  rw [sumOk_turned] at h1
  unfold cmpAskF
  refine Spec.of_wpx tt_ok Tryd.func32 (by kernel_rfl) rfl ?_
  cases hq : sumOkF [w, v] with
  | true =>
    rw [hq, if_pos rfl] at h1
    rw [if_pos rfl]
    generalize turnedF v = v' at *
    generalize winF (joinF [w, v']) true = a at *
    generalize winF (joinF [w, v']) false = b at *
    cases a <;> cases b
    · have hi := index_spec1 [49, 50, 70, 84] 50
      rw [show Lib.indexByte [49, 50, 70, 84] 50 = 1 from by decide] at hi
      (repeat' ((conv => whnf); first | refine CondVC.t ?_ | refine CondVC.f ?_ | refine CondVC.dec (fun h => ?_) (fun h => ?_) | refine CondVC.ndec (fun h => ?_) (fun h => ?_) | refine CondVC.mk (fun h => ?_) (fun h => ?_) | refine ArVC.i64 (by omega) ?_ | refine SideVC.mk (by first | omega | decide | (simp [slS]; done) | (simp [slS]; omega) | (simp only [byteE_len, mvE_len, strE_len, intE_len, esC_len, List.length_cons, List.length_nil, List.length_append, List.length_replicate, List.length_set, Int.toNat_natCast, and_true] at *; omega)) ?_ | refine LoopN.go ?_ | exact trivial | refine AltVC.mk ?_ ?_ | refine HeldVC.mk rfl ?_ | refine CallVC.pure h0 rfl ?_ | refine CallVC.res [13] rfl h1 rfl ?_ | refine CallVC.pure hi rfl ?_ | refine OpVC.more tt_ok ?_ | refine RestVC.ext tt_ok ?_)); all_goals (conv => whnf)
      all_goals exact RetVC.res rfl rfl
    · have hi := index_spec1 [49, 50, 70, 84] 70
      rw [show Lib.indexByte [49, 50, 70, 84] 70 = 2 from by decide] at hi
      (repeat' ((conv => whnf); first | refine CondVC.t ?_ | refine CondVC.f ?_ | refine CondVC.dec (fun h => ?_) (fun h => ?_) | refine CondVC.ndec (fun h => ?_) (fun h => ?_) | refine CondVC.mk (fun h => ?_) (fun h => ?_) | refine ArVC.i64 (by omega) ?_ | refine SideVC.mk (by first | omega | decide | (simp [slS]; done) | (simp [slS]; omega) | (simp only [byteE_len, mvE_len, strE_len, intE_len, esC_len, List.length_cons, List.length_nil, List.length_append, List.length_replicate, List.length_set, Int.toNat_natCast, and_true] at *; omega)) ?_ | refine LoopN.go ?_ | exact trivial | refine AltVC.mk ?_ ?_ | refine HeldVC.mk rfl ?_ | refine CallVC.pure h0 rfl ?_ | refine CallVC.res [13] rfl h1 rfl ?_ | refine CallVC.pure hi rfl ?_ | refine OpVC.more tt_ok ?_ | refine RestVC.ext tt_ok ?_)); all_goals (conv => whnf)
      all_goals exact RetVC.res rfl rfl
    · have hi := index_spec1 [49, 50, 70, 84] 84
      rw [show Lib.indexByte [49, 50, 70, 84] 84 = 3 from by decide] at hi
      (repeat' ((conv => whnf); first | refine CondVC.t ?_ | refine CondVC.f ?_ | refine CondVC.dec (fun h => ?_) (fun h => ?_) | refine CondVC.ndec (fun h => ?_) (fun h => ?_) | refine CondVC.mk (fun h => ?_) (fun h => ?_) | refine ArVC.i64 (by omega) ?_ | refine SideVC.mk (by first | omega | decide | (simp [slS]; done) | (simp [slS]; omega) | (simp only [byteE_len, mvE_len, strE_len, intE_len, esC_len, List.length_cons, List.length_nil, List.length_append, List.length_replicate, List.length_set, Int.toNat_natCast, and_true] at *; omega)) ?_ | refine LoopN.go ?_ | exact trivial | refine AltVC.mk ?_ ?_ | refine HeldVC.mk rfl ?_ | refine CallVC.pure h0 rfl ?_ | refine CallVC.res [13] rfl h1 rfl ?_ | refine CallVC.pure hi rfl ?_ | refine OpVC.more tt_ok ?_ | refine RestVC.ext tt_ok ?_)); all_goals (conv => whnf)
      all_goals exact RetVC.res rfl rfl
    · have hi := index_spec1 [49, 50, 70, 84] 49
      rw [show Lib.indexByte [49, 50, 70, 84] 49 = 0 from by decide] at hi
      (repeat' ((conv => whnf); first | refine CondVC.t ?_ | refine CondVC.f ?_ | refine CondVC.dec (fun h => ?_) (fun h => ?_) | refine CondVC.ndec (fun h => ?_) (fun h => ?_) | refine CondVC.mk (fun h => ?_) (fun h => ?_) | refine ArVC.i64 (by omega) ?_ | refine SideVC.mk (by first | omega | decide | (simp [slS]; done) | (simp [slS]; omega) | (simp only [byteE_len, mvE_len, strE_len, intE_len, esC_len, List.length_cons, List.length_nil, List.length_append, List.length_replicate, List.length_set, Int.toNat_natCast, and_true] at *; omega)) ?_ | refine LoopN.go ?_ | exact trivial | refine AltVC.mk ?_ ?_ | refine HeldVC.mk rfl ?_ | refine CallVC.pure h0 rfl ?_ | refine CallVC.res [13] rfl h1 rfl ?_ | refine CallVC.pure hi rfl ?_ | refine OpVC.more tt_ok ?_ | refine RestVC.ext tt_ok ?_)); all_goals (conv => whnf)
      all_goals exact RetVC.res rfl rfl
  | false =>
    rw [hq] at h1
    generalize turnedF v = v' at *
    (repeat' ((conv => whnf); first | refine CondVC.t ?_ | refine CondVC.f ?_ | refine CondVC.dec (fun h => ?_) (fun h => ?_) | refine CondVC.ndec (fun h => ?_) (fun h => ?_) | refine CondVC.mk (fun h => ?_) (fun h => ?_) | refine ArVC.i64 (by omega) ?_ | refine SideVC.mk (by first | omega | decide | (simp [slS]; done) | (simp [slS]; omega) | (simp only [byteE_len, mvE_len, strE_len, intE_len, esC_len, List.length_cons, List.length_nil, List.length_append, List.length_replicate, List.length_set, Int.toNat_natCast, and_true] at *; omega)) ?_ | refine LoopN.go ?_ | exact trivial | refine AltVC.mk ?_ ?_ | refine HeldVC.mk rfl ?_ | refine CallVC.pure h0 rfl ?_ | refine CallVC.res [13] rfl h1 rfl ?_ | refine OpVC.more tt_ok ?_ | refine RestVC.ext tt_ok ?_)); all_goals (conv => whnf)
    all_goals exact RetVC.res rfl rfl
theorem lawCompareGames_spec (w : Tx) (hw : w.length ≤ 9223372036854775807) (v : Tx) (hv : v.length ≤ 9223372036854775807) : Spec Tryd.prog 10 [.c (.str w), .c (.str v)] [] (isRes [vb true] []) := by
  refine Spec.of_wpx tt_ok Tryd.func10 (by kernel_rfl) rfl ?_
  (repeat' ((conv => whnf); first | refine CondVC.t ?_ | refine CondVC.f ?_ | refine CondVC.dec (fun h => ?_) (fun h => ?_) | refine CondVC.ndec (fun h => ?_) (fun h => ?_) | refine CondVC.mk (fun h => ?_) (fun h => ?_) | refine ArVC.i64 (by omega) ?_ | refine SideVC.mk (by first | omega | decide | (simp [slS]; done) | (simp [slS]; omega) | (simp only [byteE_len, mvE_len, strE_len, intE_len, esC_len, List.length_cons, List.length_nil, List.length_append, List.length_replicate, List.length_set, Int.toNat_natCast, and_true] at *; omega)) ?_ | refine LoopN.go ?_ | exact trivial | refine AltVC.mk ?_ ?_ | refine HeldVC.mk rfl ?_ | refine CallVC.pure (specCompareGames_spec w v (by omega) (by omega)) rfl ?_ | refine CallVC.pure (implCompareGames_spec w v (by omega) (by omega)) rfl ?_ | refine OpVC.more tt_ok ?_ | refine RestVC.ext tt_ok ?_)); all_goals (conv => whnf)
  all_goals first | exact RetVC.res rfl rfl | (exfalso; simp_all; done)
end Go.Proofs.YtjpabjmcooiflaaDoor.X
