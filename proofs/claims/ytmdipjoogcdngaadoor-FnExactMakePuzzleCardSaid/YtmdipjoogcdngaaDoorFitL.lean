/- FnExactDoesFit: both functions and the law. No condition beyond the statement's. -/
import Derived.Test.YtmdipjoogcdngaaDoorFit
namespace Go.Proofs.YtmdipjoogcdngaaDoor.X
open Go.Proofs
set_option maxRecDepth 100000
set_option linter.unusedVariables false
set_option linter.unusedSimpArgs false
def valF (k a : Int) (w : Tx) : Int := if k = 0 then sgI (w.getD a.toNat 0) else if k = 1 then (w.count 84 : Nat) else if k = 2 then (w.count 70 : Nat) else if k = 3 then ((movesF w [84, 70]).length : Nat) else if k = 4 then (prF w 0 0 : Nat) else (outI w : Nat)
def cluF (k a : Int) (w : Tx) : V := if k = 0 then clueV 0 a (valF 0 a w) else clueV k (valF k a w) 0
theorem k_cases {k : Int} (h : 0 ≤ k ∧ k ≤ 5) : k = 0 ∨ k = 1 ∨ k = 2 ∨ k = 3 ∨ k = 4 ∨ k = 5 := by omega
theorem clueOf_spec (k a : Int) (w : Tx) (hw : w.length ≤ 10) (hok : w.all okCh = true) (hk : 0 ≤ k ∧ k ≤ 5) (ha : k = 0 → 0 ≤ a ∧ a < w.length) :
    Spec Tryd.prog 80 [i64 k, i64 a, .c (.str w)] [] (isRes [cluF k a w] []) := by
  have hc := implCount_spec w
  rcases k_cases hk with rfl | rfl | rfl | rfl | rfl | rfl
  · obtain ⟨ha1, ha2⟩ := ha rfl
    have h1 := signI_spec (w.getD a.toNat 0) (all_getD hok (by omega))
    show Spec _ _ _ _ (isRes [clueV 0 a (sgI (w.getD a.toNat 0))] [])
    unfold clueV
    generalize sgI (w.getD a.toNat 0) = q at *
    refine Spec.of_wpx tt_ok Tryd.func80 (by kernel_rfl) rfl ?_
    (repeat' ((conv => whnf); first | refine CondVC.t ?_ | refine CondVC.f ?_ | refine CondVC.dec (fun h => ?_) (fun h => ?_) | refine CondVC.ndec (fun h => ?_) (fun h => ?_) | refine CondVC.mk (fun h => ?_) (fun h => ?_) | refine ArVC.i64 (by first | omega | (simp only; omega)) ?_ | refine SideVC.mk (by first | omega | decide | (simp only; omega) | (simp [slS]; done) | (simp [slS]; omega) | (simp only [byteE_len, mvE_len, strE_len, intE_len, esC_len, List.length_cons, List.length_nil, List.length_append, List.length_replicate, List.length_set, Int.toNat_natCast, and_true] at *; omega)) ?_ | refine LoopN.go ?_ | exact trivial | refine AltVC.mk ?_ ?_ | refine HeldVC.mk rfl ?_ | refine CallVC.pure hc rfl ?_ | refine CallVC.pure h1 rfl ?_ | refine OpVC.more tt_ok ?_ | refine RestVC.ext tt_ok ?_)); all_goals (conv => whnf)
    all_goals first | exact RetVC.res rfl rfl | (exfalso; omega)
  · show Spec _ _ _ _ (isRes [clueV 1 (w.count 84 : Nat) 0] [])
    unfold clueV
    refine Spec.of_wpx tt_ok Tryd.func80 (by kernel_rfl) rfl ?_
    (repeat' ((conv => whnf); first | refine CondVC.t ?_ | refine CondVC.f ?_ | refine CondVC.dec (fun h => ?_) (fun h => ?_) | refine CondVC.ndec (fun h => ?_) (fun h => ?_) | refine CondVC.mk (fun h => ?_) (fun h => ?_) | refine ArVC.i64 (by first | omega | (simp only; omega)) ?_ | refine SideVC.mk (by first | omega | decide | (simp only; omega) | (simp [slS]; done) | (simp [slS]; omega) | (simp only [byteE_len, mvE_len, strE_len, intE_len, esC_len, List.length_cons, List.length_nil, List.length_append, List.length_replicate, List.length_set, Int.toNat_natCast, and_true] at *; omega)) ?_ | refine LoopN.go ?_ | exact trivial | refine AltVC.mk ?_ ?_ | refine HeldVC.mk rfl ?_ | refine CallVC.pure hc rfl ?_ | refine OpVC.more tt_ok ?_ | refine RestVC.ext tt_ok ?_)); all_goals (conv => whnf)
    all_goals first | exact RetVC.res rfl rfl | (exfalso; omega)
  · show Spec _ _ _ _ (isRes [clueV 2 (w.count 70 : Nat) 0] [])
    unfold clueV
    refine Spec.of_wpx tt_ok Tryd.func80 (by kernel_rfl) rfl ?_
    (repeat' ((conv => whnf); first | refine CondVC.t ?_ | refine CondVC.f ?_ | refine CondVC.dec (fun h => ?_) (fun h => ?_) | refine CondVC.ndec (fun h => ?_) (fun h => ?_) | refine CondVC.mk (fun h => ?_) (fun h => ?_) | refine ArVC.i64 (by first | omega | (simp only; omega)) ?_ | refine SideVC.mk (by first | omega | decide | (simp only; omega) | (simp [slS]; done) | (simp [slS]; omega) | (simp only [byteE_len, mvE_len, strE_len, intE_len, esC_len, List.length_cons, List.length_nil, List.length_append, List.length_replicate, List.length_set, Int.toNat_natCast, and_true] at *; omega)) ?_ | refine LoopN.go ?_ | exact trivial | refine AltVC.mk ?_ ?_ | refine HeldVC.mk rfl ?_ | refine CallVC.pure hc rfl ?_ | refine OpVC.more tt_ok ?_ | refine RestVC.ext tt_ok ?_)); all_goals (conv => whnf)
    all_goals first | exact RetVC.res rfl rfl | (exfalso; omega)
  · show Spec _ _ _ _ (isRes [clueV 3 ((movesF w [84, 70]).length : Nat) 0] [])
    have h1 := Spec.ren [(1001, 2001)] [(2001, 1001)] (moves_spec w [84, 70] (by omega)) rfl rfl rfl
    generalize movesF w [84, 70] = l at *
    have hml := mvE_len l
    unfold clueV
    rw [← hml]
    refine Spec.of_wpx tt_ok Tryd.func80 (by kernel_rfl) rfl ?_
    (repeat' ((conv => whnf); first | refine CondVC.t ?_ | refine CondVC.f ?_ | refine CondVC.dec (fun h => ?_) (fun h => ?_) | refine CondVC.ndec (fun h => ?_) (fun h => ?_) | refine CondVC.mk (fun h => ?_) (fun h => ?_) | refine ArVC.i64 (by first | omega | (simp only; omega)) ?_ | refine SideVC.mk (by first | omega | decide | (simp only; omega) | (simp [slS]; done) | (simp [slS]; omega) | (simp only [byteE_len, mvE_len, strE_len, intE_len, esC_len, List.length_cons, List.length_nil, List.length_append, List.length_replicate, List.length_set, Int.toNat_natCast, and_true] at *; omega)) ?_ | refine LoopN.go ?_ | exact trivial | refine AltVC.mk ?_ ?_ | refine HeldVC.mk rfl ?_ | refine CallVC.pure hc rfl ?_ | refine CallVC.res [] rfl h1 rfl ?_ | refine OpVC.more tt_ok ?_ | refine RestVC.ext tt_ok ?_)); all_goals (conv => whnf)
    all_goals first | exact RetVC.res rfl rfl | (exfalso; omega)
  · show Spec _ _ _ _ (isRes [clueV 4 (prF w 0 0 : Nat) 0] [])
    have h1 := implPairs_spec w (by omega)
    unfold clueV
    refine Spec.of_wpx tt_ok Tryd.func80 (by kernel_rfl) rfl ?_
    (repeat' ((conv => whnf); first | refine CondVC.t ?_ | refine CondVC.f ?_ | refine CondVC.dec (fun h => ?_) (fun h => ?_) | refine CondVC.ndec (fun h => ?_) (fun h => ?_) | refine CondVC.mk (fun h => ?_) (fun h => ?_) | refine ArVC.i64 (by first | omega | (simp only; omega)) ?_ | refine SideVC.mk (by first | omega | decide | (simp only; omega) | (simp [slS]; done) | (simp [slS]; omega) | (simp only [byteE_len, mvE_len, strE_len, intE_len, esC_len, List.length_cons, List.length_nil, List.length_append, List.length_replicate, List.length_set, Int.toNat_natCast, and_true] at *; omega)) ?_ | refine LoopN.go ?_ | exact trivial | refine AltVC.mk ?_ ?_ | refine HeldVC.mk rfl ?_ | refine CallVC.pure hc rfl ?_ | refine CallVC.pure h1 rfl ?_ | refine OpVC.more tt_ok ?_ | refine RestVC.ext tt_ok ?_)); all_goals (conv => whnf)
    all_goals first | exact RetVC.res rfl rfl | (exfalso; omega)
  · show Spec _ _ _ _ (isRes [clueV 5 (outI w : Nat) 0] [])
    have h1 := Spec.renE [(1000, 2000)] [(2000, 1000)] (outcome_spec w (by omega)) (fun _ => rfl) (fun _ => rfl) rfl
    rw [outI_S] at h1
    have hlt := outI_lt w
    generalize outI w = o at *
    have hi : Spec Tryd.prog 140 [.c (.str [49, 50, 70, 84]), .c (.str (outS o))] [] (isRes [.c (.int .i64 o)] []) := by
      match o, hlt with
      | 0, _ => exact index_spec1 [49, 50, 70, 84] 49
      | 1, _ => exact index_spec1 [49, 50, 70, 84] 50
      | 2, _ => exact index_spec1 [49, 50, 70, 84] 70
      | 3, _ => exact index_spec1 [49, 50, 70, 84] 84
    generalize outS o = so at *
    unfold clueV
    refine Spec.of_wpx tt_ok Tryd.func80 (by kernel_rfl) rfl ?_
    (repeat' ((conv => whnf); first | refine CondVC.t ?_ | refine CondVC.f ?_ | refine CondVC.dec (fun h => ?_) (fun h => ?_) | refine CondVC.ndec (fun h => ?_) (fun h => ?_) | refine CondVC.mk (fun h => ?_) (fun h => ?_) | refine ArVC.i64 (by first | omega | (simp only; omega)) ?_ | refine SideVC.mk (by first | omega | decide | (simp only; omega) | (simp [slS]; done) | (simp [slS]; omega) | (simp only [byteE_len, mvE_len, strE_len, intE_len, esC_len, List.length_cons, List.length_nil, List.length_append, List.length_replicate, List.length_set, Int.toNat_natCast, and_true] at *; omega)) ?_ | refine LoopN.go ?_ | exact trivial | refine AltVC.mk ?_ ?_ | refine HeldVC.mk rfl ?_ | refine CallVC.pure hc rfl ?_ | refine CallVC.res [] rfl (Spec.ren [(1000, 2000)] [(2000, 1000)] newGames_spec rfl rfl rfl) rfl ?_ | refine CallVC.pure hi rfl ?_ | (refine CallVC.ex [2000] rfl h1 ?_; intro es2 hes2; refine ⟨rfl, ?_⟩) | refine OpVC.more tt_ok ?_ | refine RestVC.ext tt_ok ?_)); all_goals (conv => whnf)
    all_goals first | exact RetVC.res rfl rfl | (exfalso; omega)
theorem pzValue_spec (k a : Int) (w : Tx) (hw : w.length ≤ 10) (hok : w.all okCh = true) (hk : 0 ≤ k ∧ k ≤ 5) (ha : k = 0 → 0 ≤ a ∧ a < w.length) :
    Spec Tryd.prog 135 [i64 k, i64 a, .c (.str w)] [] (isRes [i64 (valF k a w)] []) := by
  rcases k_cases hk with rfl | rfl | rfl | rfl | rfl | rfl
  · obtain ⟨ha1, ha2⟩ := ha rfl
    have h1 := pzSign_spec (w.getD a.toNat 0) (all_getD hok (by omega))
    show Spec _ _ _ _ (isRes [i64 (sgI (w.getD a.toNat 0))] [])
    have e1 : (w.take (a + 1).toNat).drop a.toNat = [w.getD a.toNat 0] := by
      obtain ⟨n, rfl⟩ := Int.eq_ofNat_of_zero_le ha1
      have hn : n < w.length := by omega
      rw [Int.toNat_natCast, show ((n : Int) + 1).toNat = n + 1 from by omega, List.take_succ_eq_append_getElem hn, List.drop_left' (by simp; omega), List.getD_eq_getElem?_getD, List.getElem?_eq_getElem hn]; rfl
    have e2 : [w.getD a.toNat 0] = slS w a.toNat (a + 1).toNat := by
      rw [← e1]
      obtain ⟨n, rfl⟩ := Int.eq_ofNat_of_zero_le ha1
      simp [slS]
    rw [e2] at h1
    generalize sgI (w.getD a.toNat 0) = q at *
    refine Spec.of_wpx tt_ok Tryd.func135 (by kernel_rfl) rfl ?_
    (repeat' ((conv => whnf); first | refine CondVC.t ?_ | refine CondVC.f ?_ | refine CondVC.dec (fun h => ?_) (fun h => ?_) | refine CondVC.ndec (fun h => ?_) (fun h => ?_) | refine CondVC.mk (fun h => ?_) (fun h => ?_) | refine ArVC.i64 (by first | omega | (simp only; omega)) ?_ | refine SideVC.mk (by first | omega | decide | (simp only; omega) | (simp [slS]; done) | (simp [slS]; omega) | (simp only [byteE_len, mvE_len, strE_len, intE_len, esC_len, List.length_cons, List.length_nil, List.length_append, List.length_replicate, List.length_set, Int.toNat_natCast, and_true] at *; omega)) ?_ | refine LoopN.go ?_ | exact trivial | refine AltVC.mk ?_ ?_ | refine HeldVC.mk rfl ?_ | refine CallVC.pure h1 rfl ?_ | refine OpVC.more tt_ok ?_ | refine RestVC.ext tt_ok ?_)); all_goals (conv => whnf)
    all_goals first | exact RetVC.res rfl rfl | (exfalso; omega)
  · show Spec _ _ _ _ (isRes [i64 (w.count 84 : Nat)] [])
    have h1 := liCount_spec w 84 (by omega)
    refine Spec.of_wpx tt_ok Tryd.func135 (by kernel_rfl) rfl ?_
    (repeat' ((conv => whnf); first | refine CondVC.t ?_ | refine CondVC.f ?_ | refine CondVC.dec (fun h => ?_) (fun h => ?_) | refine CondVC.ndec (fun h => ?_) (fun h => ?_) | refine CondVC.mk (fun h => ?_) (fun h => ?_) | refine ArVC.i64 (by first | omega | (simp only; omega)) ?_ | refine SideVC.mk (by first | omega | decide | (simp only; omega) | (simp [slS]; done) | (simp [slS]; omega) | (simp only [byteE_len, mvE_len, strE_len, intE_len, esC_len, List.length_cons, List.length_nil, List.length_append, List.length_replicate, List.length_set, Int.toNat_natCast, and_true] at *; omega)) ?_ | refine LoopN.go ?_ | exact trivial | refine AltVC.mk ?_ ?_ | refine HeldVC.mk rfl ?_ | refine CallVC.pure h1 rfl ?_ | refine OpVC.more tt_ok ?_ | refine RestVC.ext tt_ok ?_)); all_goals (conv => whnf)
    all_goals first | exact RetVC.res rfl rfl | (exfalso; omega)
  · show Spec _ _ _ _ (isRes [i64 (w.count 70 : Nat)] [])
    have h1 := liCount_spec w 70 (by omega)
    refine Spec.of_wpx tt_ok Tryd.func135 (by kernel_rfl) rfl ?_
    (repeat' ((conv => whnf); first | refine CondVC.t ?_ | refine CondVC.f ?_ | refine CondVC.dec (fun h => ?_) (fun h => ?_) | refine CondVC.ndec (fun h => ?_) (fun h => ?_) | refine CondVC.mk (fun h => ?_) (fun h => ?_) | refine ArVC.i64 (by first | omega | (simp only; omega)) ?_ | refine SideVC.mk (by first | omega | decide | (simp only; omega) | (simp [slS]; done) | (simp [slS]; omega) | (simp only [byteE_len, mvE_len, strE_len, intE_len, esC_len, List.length_cons, List.length_nil, List.length_append, List.length_replicate, List.length_set, Int.toNat_natCast, and_true] at *; omega)) ?_ | refine LoopN.go ?_ | exact trivial | refine AltVC.mk ?_ ?_ | refine HeldVC.mk rfl ?_ | refine CallVC.pure h1 rfl ?_ | refine OpVC.more tt_ok ?_ | refine RestVC.ext tt_ok ?_)); all_goals (conv => whnf)
    all_goals first | exact RetVC.res rfl rfl | (exfalso; omega)
  · show Spec _ _ _ _ (isRes [i64 ((movesF w [84, 70]).length : Nat)] [])
    have h1 := Spec.ren [(1001, 2001)] [(2001, 1001)] (liMoves_spec w true true hok (by omega)) rfl rfl rfl
    rw [liMoves_eq hok, show kindsF true true = [84, 70] from rfl] at h1
    generalize movesF w [84, 70] = l at *
    have hml := mvE_len l
    rw [← hml]
    refine Spec.of_wpx tt_ok Tryd.func135 (by kernel_rfl) rfl ?_
    (repeat' ((conv => whnf); first | refine CondVC.t ?_ | refine CondVC.f ?_ | refine CondVC.dec (fun h => ?_) (fun h => ?_) | refine CondVC.ndec (fun h => ?_) (fun h => ?_) | refine CondVC.mk (fun h => ?_) (fun h => ?_) | refine ArVC.i64 (by first | omega | (simp only; omega)) ?_ | refine SideVC.mk (by first | omega | decide | (simp only; omega) | (simp [slS]; done) | (simp [slS]; omega) | (simp only [byteE_len, mvE_len, strE_len, intE_len, esC_len, List.length_cons, List.length_nil, List.length_append, List.length_replicate, List.length_set, Int.toNat_natCast, and_true] at *; omega)) ?_ | refine LoopN.go ?_ | exact trivial | refine AltVC.mk ?_ ?_ | refine HeldVC.mk rfl ?_ | refine CallVC.res [] rfl h1 rfl ?_ | refine OpVC.more tt_ok ?_ | refine RestVC.ext tt_ok ?_)); all_goals (conv => whnf)
    all_goals first | exact RetVC.res rfl rfl | (exfalso; omega)
  · show Spec _ _ _ _ (isRes [i64 (prF w 0 0 : Nat)] [])
    have h1 := liPairs_spec w (by omega)
    refine Spec.of_wpx tt_ok Tryd.func135 (by kernel_rfl) rfl ?_
    (repeat' ((conv => whnf); first | refine CondVC.t ?_ | refine CondVC.f ?_ | refine CondVC.dec (fun h => ?_) (fun h => ?_) | refine CondVC.ndec (fun h => ?_) (fun h => ?_) | refine CondVC.mk (fun h => ?_) (fun h => ?_) | refine ArVC.i64 (by first | omega | (simp only; omega)) ?_ | refine SideVC.mk (by first | omega | decide | (simp only; omega) | (simp [slS]; done) | (simp [slS]; omega) | (simp only [byteE_len, mvE_len, strE_len, intE_len, esC_len, List.length_cons, List.length_nil, List.length_append, List.length_replicate, List.length_set, Int.toNat_natCast, and_true] at *; omega)) ?_ | refine LoopN.go ?_ | exact trivial | refine AltVC.mk ?_ ?_ | refine HeldVC.mk rfl ?_ | refine CallVC.pure h1 rfl ?_ | refine OpVC.more tt_ok ?_ | refine RestVC.ext tt_ok ?_)); all_goals (conv => whnf)
    all_goals first | exact RetVC.res rfl rfl | (exfalso; omega)
  · show Spec _ _ _ _ (isRes [i64 (outI w : Nat)] [])
    have hls : okLs [w] := ⟨fun v hv => by simp at hv; rw [hv]; exact hok, by simpa [sumF] using hw, by simp⟩
    have h1 := Spec.ren [(1000, 34)] [(34, 1000)] (gaOutcome_spec [w] hls) rfl rfl rfl
    have e1 : joinF [w] = w := rfl
    rw [e1, outI_S] at h1
    have h2 := pzOut_spec _ (outI_lt w)
    generalize outI w = o at *
    generalize outS o = so at *
    refine Spec.of_wpx tt_ok Tryd.func135 (by kernel_rfl) rfl ?_
    (repeat' ((conv => whnf); first | refine CondVC.t ?_ | refine CondVC.f ?_ | refine CondVC.dec (fun h => ?_) (fun h => ?_) | refine CondVC.ndec (fun h => ?_) (fun h => ?_) | refine CondVC.mk (fun h => ?_) (fun h => ?_) | refine ArVC.i64 (by first | omega | (simp only; omega)) ?_ | refine SideVC.mk (by first | omega | decide | (simp only; omega) | (simp [slS]; done) | (simp [slS]; omega) | (simp only [byteE_len, mvE_len, strE_len, intE_len, esC_len, List.length_cons, List.length_nil, List.length_append, List.length_replicate, List.length_set, Int.toNat_natCast, and_true] at *; omega)) ?_ | refine LoopN.go ?_ | exact trivial | refine AltVC.mk ?_ ?_ | refine HeldVC.mk rfl ?_ | refine CallVC.res [34] rfl h1 rfl ?_ | refine CallVC.pure h2 rfl ?_ | refine OpVC.more tt_ok ?_ | refine RestVC.ext tt_ok ?_)); all_goals (conv => whnf)
    all_goals first | exact RetVC.res rfl rfl | (exfalso; omega)

/-! ### Fits -/
def fitF (k a b : Int) (w : Tx) : Bool := if k = 0 then decide (valF 0 a w = b) else decide (valF k 0 w = a)
theorem pzFits_spec (k a b : Int) (w : Tx) (hw : w.length ≤ 10) (hok : w.all okCh = true) (hk : 0 ≤ k ∧ k ≤ 5) (ha : k = 0 → 0 ≤ a ∧ a < w.length) :
    Spec Tryd.prog 76 [clueV k a b, .c (.str w)] [] (isRes [vb (fitF k a b w)] []) := by
  unfold fitF clueV
  by_cases h0 : k = 0
  · subst h0
    have h1 := pzValue_spec 0 a w hw hok hk ha
    rw [if_pos rfl]
    generalize valF 0 a w = q at *
    refine Spec.of_wpx tt_ok Tryd.func76 (by kernel_rfl) rfl ?_
    (repeat' ((conv => whnf); first | refine CondVC.t ?_ | refine CondVC.f ?_ | refine CondVC.dec (fun h => ?_) (fun h => ?_) | refine CondVC.ndec (fun h => ?_) (fun h => ?_) | refine CondVC.mk (fun h => ?_) (fun h => ?_) | refine ArVC.i64 (by first | omega | (simp only; omega)) ?_ | refine SideVC.mk (by first | omega | decide | (simp only; omega) | (simp [slS]; done) | (simp [slS]; omega) | (simp only [byteE_len, mvE_len, strE_len, intE_len, esC_len, List.length_cons, List.length_nil, List.length_append, List.length_replicate, List.length_set, Int.toNat_natCast, and_true] at *; omega)) ?_ | refine LoopN.go ?_ | exact trivial | refine AltVC.mk ?_ ?_ | refine HeldVC.mk rfl ?_ | refine DrawVC.tree (id := 2) tt_ok [2] tr76_2 (by kernel_rfl) (by kernel_rfl) rfl ?_ | refine CallVC.pure h1 rfl ?_ | refine OpVC.more tt_ok ?_ | refine RestVC.ext tt_ok ?_)); all_goals (conv => whnf)
    all_goals first | exact RetVC.res rfl rfl | (exfalso; omega)
  · have h1 := pzValue_spec k 0 w hw hok hk (fun h => absurd h h0)
    rw [if_neg h0]
    generalize valF k 0 w = q at *
    refine Spec.of_wpx tt_ok Tryd.func76 (by kernel_rfl) rfl ?_
    (repeat' ((conv => whnf); first | refine CondVC.t ?_ | refine CondVC.f ?_ | refine CondVC.dec (fun h => ?_) (fun h => ?_) | refine CondVC.ndec (fun h => ?_) (fun h => ?_) | refine CondVC.mk (fun h => ?_) (fun h => ?_) | refine ArVC.i64 (by first | omega | (simp only; omega)) ?_ | refine SideVC.mk (by first | omega | decide | (simp only; omega) | (simp [slS]; done) | (simp [slS]; omega) | (simp only [byteE_len, mvE_len, strE_len, intE_len, esC_len, List.length_cons, List.length_nil, List.length_append, List.length_replicate, List.length_set, Int.toNat_natCast, and_true] at *; omega)) ?_ | refine LoopN.go ?_ | exact trivial | refine AltVC.mk ?_ ?_ | refine HeldVC.mk rfl ?_ | refine DrawVC.tree (id := 3) tt_ok [2] tr76_3 (by kernel_rfl) (by kernel_rfl) rfl ?_ | refine CallVC.pure h1 rfl ?_ | refine OpVC.more tt_ok ?_ | refine RestVC.ext tt_ok ?_)); all_goals (conv => whnf)
    all_goals first | exact RetVC.res rfl rfl | (exfalso; omega)
def trFit1 : Tr := .take 0 (.take 1 (.take 2 (.take 3 (.take 4 (.take 6 (.alt 5 (.alt 7 (.take 8 (.done)) (.no)) (.no)))))))
theorem fits_spec (a b : Int) (w : Tx) (hw : w.length ≤ 10) (hok : w.all okCh = true) (ha : 0 ≤ a ∧ a < w.length) :
    Spec Tryd.prog 79 [clueV 0 a b, .c (.str w)] [] (isRes [vb (fitF 0 a b w)] []) := by
  have h1 := clueOf_spec 0 a w hw hok (by omega) (fun _ => ha)
  have e : cluF 0 a w = clueV 0 a (valF 0 a w) := rfl
  rw [e] at h1
  show Spec _ _ _ _ (isRes [vb (decide (valF 0 a w = b))] [])
  unfold clueV at *
  generalize valF 0 a w = q at *
  refine Spec.of_wpx tt_ok Tryd.func79 (by kernel_rfl) rfl ?_
  (repeat' ((conv => whnf); first | refine CondVC.t ?_ | refine CondVC.f ?_ | refine CondVC.dec (fun h => ?_) (fun h => ?_) | refine CondVC.ndec (fun h => ?_) (fun h => ?_) | refine CondVC.mk (fun h => ?_) (fun h => ?_) | refine ArVC.i64 (by first | omega | (simp only; omega)) ?_ | refine SideVC.mk (by first | omega | decide | (simp only; omega) | (simp [slS]; done) | (simp [slS]; omega) | (simp only [byteE_len, mvE_len, strE_len, intE_len, esC_len, List.length_cons, List.length_nil, List.length_append, List.length_replicate, List.length_set, Int.toNat_natCast, and_true] at *; omega)) ?_ | refine LoopN.go ?_ | exact trivial | refine AltVC.mk ?_ ?_ | refine HeldVC.mk rfl ?_ | refine DrawVC.tree (id := 1) tt_ok [2] trFit1 (by kernel_rfl) (by kernel_rfl) rfl ?_ | refine CallVC.pure h1 rfl ?_ | refine RestVC2.eqStr strClue (decide (q = b)) rfl rfl rfl (by simp) ?_ | refine OpVC.more tt_ok ?_ | refine RestVC.ext tt_ok ?_)); all_goals (conv => whnf)
  all_goals first | exact RetVC.res rfl rfl | (exfalso; omega)
def trFit5 : Tr := .take 0 (.take 1 (.take 2 (.take 4 (.alt 3 (.alt 5 (.take 6 (.take 7 (.done))) (.no)) (.no)))))
def fitOk (k a b : Int) (w : Tx) : Bool := lineOf w 5 && pzClueF w.length k a b
theorem fit_facts {k a b : Int} {w : Tx} (h : pzClueF w.length k a b = true) : (0 ≤ k ∧ k ≤ 5) ∧ (k = 0 → 0 ≤ a ∧ a < w.length) ∧ (k ≠ 0 → b = 0) := by
  unfold pzClueF at h
  split at h
  · rename_i hk
    simp only [Bool.and_eq_true, decide_eq_true_eq] at h
    exact ⟨by omega, fun _ => by omega, fun h' => absurd hk h'⟩
  · split at h
    · cases h
    · rename_i hk hb
      refine ⟨?_, fun h' => absurd h' hk, fun _ => by simpa using hb⟩
      split at h
      · omega
      · split at h
        · omega
        · split at h
          · omega
          · split at h
            · omega
            · cases h
theorem line5 {w : Tx} (h : lineOf w 5 = true) : (1 ≤ w.length ∧ w.length ≤ 5) ∧ w.all okCh = true := by
  unfold lineOf at h
  simp only [Bool.and_eq_true, decide_eq_true_eq] at h
  exact ⟨by omega, h.2⟩
theorem implDoesFit_spec (k a b : Int) (w : Tx) (hl : w.length ≤ 1048576) :
    Spec Tryd.prog 16 [clueV k a b, .c (.str w)] [] (isRes [vb (fitOk k a b w && fitF k a b w), vb (fitOk k a b w)] []) := by
  have h1 := isLineOf_spec w 5 (by omega)
  have h2 := implIsClue_spec w.length k a b
  cases hn : lineOf w 5 with
  | false =>
    have e : fitOk k a b w = false := by unfold fitOk; rw [hn]; rfl
    rw [hn] at h1
    rw [e]
    refine Spec.of_wpx tt_ok Tryd.func16 (by kernel_rfl) rfl ?_
    (repeat' ((conv => whnf); first | refine CondVC.t ?_ | refine CondVC.f ?_ | refine CondVC.dec (fun h => ?_) (fun h => ?_) | refine CondVC.ndec (fun h => ?_) (fun h => ?_) | refine CondVC.mk (fun h => ?_) (fun h => ?_) | refine ArVC.i64 (by first | omega | (simp only; omega)) ?_ | refine SideVC.mk (by first | omega | decide | (simp only; omega) | (simp [slS]; done) | (simp [slS]; omega) | (simp only [byteE_len, mvE_len, strE_len, intE_len, esC_len, List.length_cons, List.length_nil, List.length_append, List.length_replicate, List.length_set, Int.toNat_natCast, and_true] at *; omega)) ?_ | refine LoopN.go ?_ | exact trivial | refine AltVC.mk ?_ ?_ | refine HeldVC.mk rfl ?_ | refine CallVC.pure h1 rfl ?_ | refine OpVC.more tt_ok ?_ | refine RestVC.ext tt_ok ?_)); all_goals (conv => whnf)
    all_goals first | exact RetVC.res rfl rfl | (exfalso; simp_all; done)
  | true =>
    obtain ⟨⟨g1, g2⟩, hok⟩ := line5 hn
    have e : fitOk k a b w = pzClueF w.length k a b := by unfold fitOk; rw [hn]; rfl
    have e2 : isClueF w.length k a b = pzClueF w.length k a b := by unfold isClueF; rw [decide_eq_true (by omega)]; rfl
    rw [hn] at h1
    rw [e2] at h2
    rw [e]
    cases hp : pzClueF w.length k a b with
    | false =>
      rw [hp] at h2
      unfold clueV at *
      refine Spec.of_wpx tt_ok Tryd.func16 (by kernel_rfl) rfl ?_
      (repeat' ((conv => whnf); first | refine CondVC.t ?_ | refine CondVC.f ?_ | refine CondVC.dec (fun h => ?_) (fun h => ?_) | refine CondVC.ndec (fun h => ?_) (fun h => ?_) | refine CondVC.mk (fun h => ?_) (fun h => ?_) | refine ArVC.i64 (by first | omega | (simp only; omega)) ?_ | refine SideVC.mk (by first | omega | decide | (simp only; omega) | (simp [slS]; done) | (simp [slS]; omega) | (simp only [byteE_len, mvE_len, strE_len, intE_len, esC_len, List.length_cons, List.length_nil, List.length_append, List.length_replicate, List.length_set, Int.toNat_natCast, and_true] at *; omega)) ?_ | refine LoopN.go ?_ | exact trivial | refine AltVC.mk ?_ ?_ | refine HeldVC.mk rfl ?_ | refine CallVC.pure h1 rfl ?_ | refine CallVC.pure h2 rfl ?_ | refine OpVC.more tt_ok ?_ | refine RestVC.ext tt_ok ?_)); all_goals (conv => whnf)
      all_goals first | exact RetVC.res rfl rfl | (exfalso; simp_all; done)
    | true =>
      rw [hp] at h2
      obtain ⟨f1, f2, f3⟩ := fit_facts hp
      by_cases h0 : k = 0
      · subst h0
        have h3 := fits_spec a b w (by omega) hok (f2 rfl)
        rw [Bool.true_and]
        generalize fitF 0 a b w = q at *
        unfold clueV at *
        refine Spec.of_wpx tt_ok Tryd.func16 (by kernel_rfl) rfl ?_
        (repeat' ((conv => whnf); first | refine CondVC.t ?_ | refine CondVC.f ?_ | refine CondVC.dec (fun h => ?_) (fun h => ?_) | refine CondVC.ndec (fun h => ?_) (fun h => ?_) | refine CondVC.mk (fun h => ?_) (fun h => ?_) | refine ArVC.i64 (by first | omega | (simp only; omega)) ?_ | refine SideVC.mk (by first | omega | decide | (simp only; omega) | (simp [slS]; done) | (simp [slS]; omega) | (simp only [byteE_len, mvE_len, strE_len, intE_len, esC_len, List.length_cons, List.length_nil, List.length_append, List.length_replicate, List.length_set, Int.toNat_natCast, and_true] at *; omega)) ?_ | refine LoopN.go ?_ | exact trivial | refine AltVC.mk ?_ ?_ | refine HeldVC.mk rfl ?_ | refine CallVC.pure h1 rfl ?_ | refine CallVC.pure h2 rfl ?_ | refine CallVC.pure h3 rfl ?_ | refine OpVC.more tt_ok ?_ | refine RestVC.ext tt_ok ?_)); all_goals (conv => whnf)
        all_goals first | exact RetVC.res rfl rfl | (exfalso; simp_all; done)
      · obtain rfl := f3 h0
        have h3 := clueOf_spec k 0 w (by omega) hok f1 (fun h => absurd h h0)
        have e3 : cluF k 0 w = clueV k (valF k 0 w) 0 := by unfold cluF; rw [if_neg h0]
        rw [e3] at h3
        rw [Bool.true_and]
        have e4 : fitF k a 0 w = decide (valF k 0 w = a) := by unfold fitF; rw [if_neg h0]
        rw [e4]
        generalize valF k 0 w = q at *
        unfold clueV at *
        refine Spec.of_wpx tt_ok Tryd.func16 (by kernel_rfl) rfl ?_
        (repeat' ((conv => whnf); first | refine CondVC.t ?_ | refine CondVC.f ?_ | refine CondVC.dec (fun h => ?_) (fun h => ?_) | refine CondVC.ndec (fun h => ?_) (fun h => ?_) | refine CondVC.mk (fun h => ?_) (fun h => ?_) | refine ArVC.i64 (by first | omega | (simp only; omega)) ?_ | refine SideVC.mk (by first | omega | decide | (simp only; omega) | (simp [slS]; done) | (simp [slS]; omega) | (simp only [byteE_len, mvE_len, strE_len, intE_len, esC_len, List.length_cons, List.length_nil, List.length_append, List.length_replicate, List.length_set, Int.toNat_natCast, and_true] at *; omega)) ?_ | refine LoopN.go ?_ | exact trivial | refine AltVC.mk ?_ ?_ | refine HeldVC.mk rfl ?_ | refine CallVC.pure h1 rfl ?_ | refine CallVC.pure h2 rfl ?_ | refine DrawVC.tree (id := 5) tt_ok [2] trFit5 (by kernel_rfl) (by kernel_rfl) rfl ?_ | refine CallVC.pure h3 rfl ?_ | refine RestVC2.eqStr strClue (decide (q = a)) rfl rfl rfl (by simp) ?_ | refine OpVC.more tt_ok ?_ | refine RestVC.ext tt_ok ?_)); all_goals (conv => whnf)
        all_goals first | exact RetVC.res rfl rfl | (exfalso; simp_all; done)
theorem pzLine_spec (w : Tx) (hl : w.length ≤ 1048576) : Spec Tryd.prog 74 [.c (.str w)] [] (isRes [vb (lineOf w 5)] []) := by
  have h1 := liGood_spec w (by omega)
  refine Spec.of_wpx tt_ok Tryd.func74 (by kernel_rfl) rfl ?_
  cases hn : lineOf w 12 with
  | false =>
    have e : lineOf w 5 = false := by
      unfold lineOf at *
      rw [Bool.eq_false_iff] at *
      intro h
      apply hn
      simp only [Bool.and_eq_true, decide_eq_true_eq] at *
      exact ⟨by omega, h.2⟩
    rw [hn] at h1
    rw [e]
    (repeat' ((conv => whnf); first | refine CondVC.t ?_ | refine CondVC.f ?_ | refine CondVC.dec (fun h => ?_) (fun h => ?_) | refine CondVC.ndec (fun h => ?_) (fun h => ?_) | refine CondVC.mk (fun h => ?_) (fun h => ?_) | refine ArVC.i64 (by first | omega | (simp only; omega)) ?_ | refine SideVC.mk (by first | omega | decide | (simp only; omega) | (simp [slS]; done) | (simp [slS]; omega) | (simp only [byteE_len, mvE_len, strE_len, intE_len, esC_len, List.length_cons, List.length_nil, List.length_append, List.length_replicate, List.length_set, Int.toNat_natCast, and_true] at *; omega)) ?_ | refine LoopN.go ?_ | exact trivial | refine AltVC.mk ?_ ?_ | refine HeldVC.mk rfl ?_ | refine CallVC.pure h1 rfl ?_ | refine OpVC.more tt_ok ?_ | refine RestVC.ext tt_ok ?_)); all_goals (conv => whnf)
    all_goals first | exact RetVC.res rfl rfl | (exfalso; simp_all; done)
  | true =>
    have e : lineOf w 5 = decide ((w.length : Int) ≤ 5) := by
      unfold lineOf at *
      simp only [Bool.and_eq_true, decide_eq_true_eq] at hn
      rw [hn.2, Bool.and_true, decide_eq_decide]
      omega
    rw [hn] at h1
    rw [e]
    (repeat' ((conv => whnf); first | refine CondVC.t ?_ | refine CondVC.f ?_ | refine CondVC.dec (fun h => ?_) (fun h => ?_) | refine CondVC.ndec (fun h => ?_) (fun h => ?_) | refine CondVC.mk (fun h => ?_) (fun h => ?_) | refine ArVC.i64 (by first | omega | (simp only; omega)) ?_ | refine SideVC.mk (by first | omega | decide | (simp only; omega) | (simp [slS]; done) | (simp [slS]; omega) | (simp only [byteE_len, mvE_len, strE_len, intE_len, esC_len, List.length_cons, List.length_nil, List.length_append, List.length_replicate, List.length_set, Int.toNat_natCast, and_true] at *; omega)) ?_ | refine LoopN.go ?_ | exact trivial | refine AltVC.mk ?_ ?_ | refine HeldVC.mk rfl ?_ | refine CallVC.pure h1 rfl ?_ | refine OpVC.more tt_ok ?_ | refine RestVC.ext tt_ok ?_)); all_goals (conv => whnf)
    all_goals first | exact RetVC.res rfl rfl | (exfalso; simp_all; done)
theorem specDoesFit_spec (k a b : Int) (w : Tx) (hl : w.length ≤ 1048576) :
    Spec Tryd.prog 14 [clueV k a b, .c (.str w)] [] (isRes [vb (fitOk k a b w && fitF k a b w), vb (fitOk k a b w)] []) := by
  have h1 := pzLine_spec w hl
  cases hn : lineOf w 5 with
  | false =>
    have e : fitOk k a b w = false := by unfold fitOk; rw [hn]; rfl
    rw [hn] at h1
    rw [e]
    refine Spec.of_wpx tt_ok Tryd.func14 (by kernel_rfl) rfl ?_
    (repeat' ((conv => whnf); first | refine CondVC.t ?_ | refine CondVC.f ?_ | refine CondVC.dec (fun h => ?_) (fun h => ?_) | refine CondVC.ndec (fun h => ?_) (fun h => ?_) | refine CondVC.mk (fun h => ?_) (fun h => ?_) | refine ArVC.i64 (by first | omega | (simp only; omega)) ?_ | refine SideVC.mk (by first | omega | decide | (simp only; omega) | (simp [slS]; done) | (simp [slS]; omega) | (simp only [byteE_len, mvE_len, strE_len, intE_len, esC_len, List.length_cons, List.length_nil, List.length_append, List.length_replicate, List.length_set, Int.toNat_natCast, and_true] at *; omega)) ?_ | refine LoopN.go ?_ | exact trivial | refine AltVC.mk ?_ ?_ | refine HeldVC.mk rfl ?_ | refine CallVC.pure h1 rfl ?_ | refine OpVC.more tt_ok ?_ | refine RestVC.ext tt_ok ?_)); all_goals (conv => whnf)
    all_goals first | exact RetVC.res rfl rfl | (exfalso; simp_all; done)
  | true =>
    obtain ⟨⟨g1, g2⟩, hok⟩ := line5 hn
    have h2 := pzClue_spec w.length k a b (by omega)
    have e : fitOk k a b w = pzClueF w.length k a b := by unfold fitOk; rw [hn]; rfl
    rw [hn] at h1
    rw [e]
    cases hp : pzClueF w.length k a b with
    | false =>
      rw [hp] at h2
      unfold clueV at *
      refine Spec.of_wpx tt_ok Tryd.func14 (by kernel_rfl) rfl ?_
      (repeat' ((conv => whnf); first | refine CondVC.t ?_ | refine CondVC.f ?_ | refine CondVC.dec (fun h => ?_) (fun h => ?_) | refine CondVC.ndec (fun h => ?_) (fun h => ?_) | refine CondVC.mk (fun h => ?_) (fun h => ?_) | refine ArVC.i64 (by first | omega | (simp only; omega)) ?_ | refine SideVC.mk (by first | omega | decide | (simp only; omega) | (simp [slS]; done) | (simp [slS]; omega) | (simp only [byteE_len, mvE_len, strE_len, intE_len, esC_len, List.length_cons, List.length_nil, List.length_append, List.length_replicate, List.length_set, Int.toNat_natCast, and_true] at *; omega)) ?_ | refine LoopN.go ?_ | exact trivial | refine AltVC.mk ?_ ?_ | refine HeldVC.mk rfl ?_ | refine CallVC.pure h1 rfl ?_ | refine CallVC.pure h2 rfl ?_ | refine OpVC.more tt_ok ?_ | refine RestVC.ext tt_ok ?_)); all_goals (conv => whnf)
      all_goals first | exact RetVC.res rfl rfl | (exfalso; simp_all; done)
    | true =>
      rw [hp] at h2
      obtain ⟨f1, f2, f3⟩ := fit_facts hp
      have h3 := pzFits_spec k a b w (by omega) hok f1 f2
      rw [Bool.true_and]
      generalize fitF k a b w = q at *
      unfold clueV at *
      refine Spec.of_wpx tt_ok Tryd.func14 (by kernel_rfl) rfl ?_
      (repeat' ((conv => whnf); first | refine CondVC.t ?_ | refine CondVC.f ?_ | refine CondVC.dec (fun h => ?_) (fun h => ?_) | refine CondVC.ndec (fun h => ?_) (fun h => ?_) | refine CondVC.mk (fun h => ?_) (fun h => ?_) | refine ArVC.i64 (by first | omega | (simp only; omega)) ?_ | refine SideVC.mk (by first | omega | decide | (simp only; omega) | (simp [slS]; done) | (simp [slS]; omega) | (simp only [byteE_len, mvE_len, strE_len, intE_len, esC_len, List.length_cons, List.length_nil, List.length_append, List.length_replicate, List.length_set, Int.toNat_natCast, and_true] at *; omega)) ?_ | refine LoopN.go ?_ | exact trivial | refine AltVC.mk ?_ ?_ | refine HeldVC.mk rfl ?_ | refine CallVC.pure h1 rfl ?_ | refine CallVC.pure h2 rfl ?_ | refine CallVC.pure h3 rfl ?_ | refine OpVC.more tt_ok ?_ | refine RestVC.ext tt_ok ?_)); all_goals (conv => whnf)
      all_goals first | exact RetVC.res rfl rfl | (exfalso; simp_all; done)
theorem lawDoesFit_spec (k a b : Int) (w : Tx) (hw : w.length ≤ 9223372036854775807) : Spec Tryd.prog 4 [clueV k a b, .c (.str w)] [] (isRes [vb true] []) := by
  by_cases hb : w.length ≤ 1048576
  · have h1 := specDoesFit_spec k a b w hb
    have h2 := implDoesFit_spec k a b w hb
    have h3 := toClue_spec k a b
    generalize fitF k a b w = p at *
    generalize fitOk k a b w = q at *
    unfold clueV at *
    refine Spec.of_wpx tt_ok Tryd.func4 (by kernel_rfl) rfl ?_
    (repeat' ((conv => whnf); first | refine CondVC.t ?_ | refine CondVC.f ?_ | refine CondVC.dec (fun h => ?_) (fun h => ?_) | refine CondVC.ndec (fun h => ?_) (fun h => ?_) | refine CondVC.mk (fun h => ?_) (fun h => ?_) | refine ArVC.i64 (by first | omega | (simp only; omega)) ?_ | refine SideVC.mk (by first | omega | decide | (simp only; omega) | (simp [slS]; done) | (simp [slS]; omega) | (simp only [byteE_len, mvE_len, strE_len, intE_len, esC_len, List.length_cons, List.length_nil, List.length_append, List.length_replicate, List.length_set, Int.toNat_natCast, and_true] at *; omega)) ?_ | refine LoopN.go ?_ | exact trivial | refine AltVC.mk ?_ ?_ | refine HeldVC.mk rfl ?_ | refine CallVC.pure h1 rfl ?_ | refine CallVC.pure h2 rfl ?_ | refine CallVC.pure h3 rfl ?_ | refine OpVC.more tt_ok ?_ | refine RestVC.ext tt_ok ?_)); all_goals (conv => whnf)
    all_goals first | exact RetVC.res rfl rfl | (exfalso; omega) | (exfalso; simp_all; done)
  · unfold clueV
    refine Spec.of_wpx tt_ok Tryd.func4 (by kernel_rfl) rfl ?_
    (repeat' ((conv => whnf); first | refine CondVC.t ?_ | refine CondVC.f ?_ | refine CondVC.dec (fun h => ?_) (fun h => ?_) | refine CondVC.ndec (fun h => ?_) (fun h => ?_) | refine CondVC.mk (fun h => ?_) (fun h => ?_) | refine ArVC.i64 (by first | omega | (simp only; omega)) ?_ | refine SideVC.mk (by first | omega | decide | (simp only; omega) | (simp [slS]; done) | (simp [slS]; omega) | (simp only [byteE_len, mvE_len, strE_len, intE_len, esC_len, List.length_cons, List.length_nil, List.length_append, List.length_replicate, List.length_set, Int.toNat_natCast, and_true] at *; omega)) ?_ | refine LoopN.go ?_ | exact trivial | refine AltVC.mk ?_ ?_ | refine HeldVC.mk rfl ?_ | refine OpVC.more tt_ok ?_ | refine RestVC.ext tt_ok ?_)); all_goals (conv => whnf)
    all_goals first | exact RetVC.res rfl rfl | (exfalso; omega)
end Go.Proofs.YtmdipjoogcdngaaDoor.X
