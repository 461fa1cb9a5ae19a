/- Words between lines with one gap, and the first of the longest words: the program's and the reference's. No condition beyond each statement's. -/
import Derived.Test.YtblihaicbhdbdaaDoorWo
import Derived.Test.YtblihaicbhdbdaaDoorFree
namespace Go.Proofs.YtblihaicbhdbdaaDoor.X
open Go.Proofs
set_option maxRecDepth 100000
set_option linter.unusedVariables false
set_option linter.unusedSimpArgs false

theorem oneGap_ok {w : Tx} (h : oneGapF w = true) : w.all okCh = true ∧ w.length ≤ 10 ∧ w.count 46 = 1 := by
  unfold oneGapF lineOf at h
  simp only [Bool.and_eq_true, decide_eq_true_eq] at h
  exact ⟨h.1.2, by omega, by omega⟩
def betWOk (w v : Tx) : Bool := oneGapF w && oneGapF v && decide (0 < playsF v w)
def betWF (w v : Tx) : Tx := if betWOk w v then wfirF v w else []
theorem implWordBetween_spec (w v : Tx) (hw : w.length ≤ 1048576) (hv : v.length ≤ 1048576) : Spec Tryd.prog 11 [.c (.str w), .c (.str v)] [] (isRes [.c (.str (betWF w v)), vb (betWOk w v)] []) := by
  have h1 := hasOneGap_spec w hw
  have h2 := hasOneGap_spec v hv
  unfold betWF betWOk
  refine Spec.of_wpx tt_ok Tryd.func11 (by kernel_rfl) rfl ?_
  cases ha : oneGapF w with
  | false =>
    rw [ha] at h1
    (repeat' ((conv => whnf); first | refine CondVC.t ?_ | refine CondVC.f ?_ | refine CondVC.dec (fun h => ?_) (fun h => ?_) | refine CondVC.ndec (fun h => ?_) (fun h => ?_) | refine CondVC.mk (fun h => ?_) (fun h => ?_) | refine ArVC.i64 (by first | omega | (simp only; omega)) ?_ | refine SideVC.mk (by first | omega | decide | (simp only; omega) | (simp [slS]; done) | (simp [slS]; omega) | (simp only [byteE_len, mvE_len, strE_len, intE_len, esC_len, List.length_cons, List.length_nil, List.length_append, List.length_replicate, List.length_set, Int.toNat_natCast, and_true] at *; omega)) ?_ | refine LoopN.go ?_ | exact trivial | refine AltVC.mk ?_ ?_ | refine HeldVC.mk rfl ?_ | refine CallVC.pure h1 rfl ?_ | refine OpVC.more tt_ok ?_ | refine RestVC.ext tt_ok ?_)); all_goals (conv => whnf)
    all_goals exact RetVC.res rfl rfl
  | true =>
    rw [ha] at h1
    cases hb : oneGapF v with
    | false =>
      rw [hb] at h2
      (repeat' ((conv => whnf); first | refine CondVC.t ?_ | refine CondVC.f ?_ | refine CondVC.dec (fun h => ?_) (fun h => ?_) | refine CondVC.ndec (fun h => ?_) (fun h => ?_) | refine CondVC.mk (fun h => ?_) (fun h => ?_) | refine ArVC.i64 (by first | omega | (simp only; omega)) ?_ | refine SideVC.mk (by first | omega | decide | (simp only; omega) | (simp [slS]; done) | (simp [slS]; omega) | (simp only [byteE_len, mvE_len, strE_len, intE_len, esC_len, List.length_cons, List.length_nil, List.length_append, List.length_replicate, List.length_set, Int.toNat_natCast, and_true] at *; omega)) ?_ | refine LoopN.go ?_ | exact trivial | refine AltVC.mk ?_ ?_ | refine HeldVC.mk rfl ?_ | refine CallVC.pure h1 rfl ?_ | refine CallVC.pure h2 rfl ?_ | refine OpVC.more tt_ok ?_ | refine RestVC.ext tt_ok ?_)); all_goals (conv => whnf)
      all_goals exact RetVC.res rfl rfl
    | true =>
      rw [hb] at h2
      obtain ⟨k1, k2, k3⟩ := oneGap_ok ha
      have h4 := wordTo_spec w v k2 k3
      unfold wordToF at h4
      simp only [Bool.true_and, decide_eq_true_eq]
      generalize (if 0 < playsF v w then wfirF v w else []) = s at *
      generalize decide (0 < playsF v w) = b at *
      (repeat' ((conv => whnf); first | refine CondVC.t ?_ | refine CondVC.f ?_ | refine CondVC.dec (fun h => ?_) (fun h => ?_) | refine CondVC.ndec (fun h => ?_) (fun h => ?_) | refine CondVC.mk (fun h => ?_) (fun h => ?_) | refine ArVC.i64 (by first | omega | (simp only; omega)) ?_ | refine SideVC.mk (by first | omega | decide | (simp only; omega) | (simp [slS]; done) | (simp [slS]; omega) | (simp only [byteE_len, mvE_len, strE_len, intE_len, esC_len, List.length_cons, List.length_nil, List.length_append, List.length_replicate, List.length_set, Int.toNat_natCast, and_true] at *; omega)) ?_ | refine LoopN.go ?_ | exact trivial | refine AltVC.mk ?_ ?_ | refine HeldVC.mk rfl ?_ | refine CallVC.pure h1 rfl ?_ | refine CallVC.pure h2 rfl ?_ | refine CallVC.pure h4 rfl ?_ | refine OpVC.more tt_ok ?_ | refine RestVC.ext tt_ok ?_)); all_goals (conv => whnf)
      all_goals exact RetVC.res rfl rfl
theorem specWordBetween_spec (w v : Tx) (hw : w.length ≤ 1048576) (hv : v.length ≤ 1048576) : Spec Tryd.prog 10 [.c (.str w), .c (.str v)] [] (isRes [.c (.str (betWF w v)), vb (betWOk w v)] []) := by
  have h1 := woOne_spec w hw
  have h2 := woOne_spec v hv
  unfold betWF betWOk
  refine Spec.of_wpx tt_ok Tryd.func10 (by kernel_rfl) rfl ?_
  cases ha : oneGapF w with
  | false =>
    rw [ha] at h1
    (repeat' ((conv => whnf); first | refine CondVC.t ?_ | refine CondVC.f ?_ | refine CondVC.dec (fun h => ?_) (fun h => ?_) | refine CondVC.ndec (fun h => ?_) (fun h => ?_) | refine CondVC.mk (fun h => ?_) (fun h => ?_) | refine ArVC.i64 (by first | omega | (simp only; omega)) ?_ | refine SideVC.mk (by first | omega | decide | (simp only; omega) | (simp [slS]; done) | (simp [slS]; omega) | (simp only [byteE_len, mvE_len, strE_len, intE_len, esC_len, List.length_cons, List.length_nil, List.length_append, List.length_replicate, List.length_set, Int.toNat_natCast, and_true] at *; omega)) ?_ | refine LoopN.go ?_ | exact trivial | refine AltVC.mk ?_ ?_ | refine HeldVC.mk rfl ?_ | refine CallVC.pure h1 rfl ?_ | refine OpVC.more tt_ok ?_ | refine RestVC.ext tt_ok ?_)); all_goals (conv => whnf)
    all_goals exact RetVC.res rfl rfl
  | true =>
    rw [ha] at h1
    cases hb : oneGapF v with
    | false =>
      rw [hb] at h2
      (repeat' ((conv => whnf); first | refine CondVC.t ?_ | refine CondVC.f ?_ | refine CondVC.dec (fun h => ?_) (fun h => ?_) | refine CondVC.ndec (fun h => ?_) (fun h => ?_) | refine CondVC.mk (fun h => ?_) (fun h => ?_) | refine ArVC.i64 (by first | omega | (simp only; omega)) ?_ | refine SideVC.mk (by first | omega | decide | (simp only; omega) | (simp [slS]; done) | (simp [slS]; omega) | (simp only [byteE_len, mvE_len, strE_len, intE_len, esC_len, List.length_cons, List.length_nil, List.length_append, List.length_replicate, List.length_set, Int.toNat_natCast, and_true] at *; omega)) ?_ | refine LoopN.go ?_ | exact trivial | refine AltVC.mk ?_ ?_ | refine HeldVC.mk rfl ?_ | refine CallVC.pure h1 rfl ?_ | refine CallVC.pure h2 rfl ?_ | refine OpVC.more tt_ok ?_ | refine RestVC.ext tt_ok ?_)); all_goals (conv => whnf)
      all_goals exact RetVC.res rfl rfl
    | true =>
      rw [hb] at h2
      obtain ⟨k1, k2, k3⟩ := oneGap_ok ha
      have h3 := reAfter_spec w v k1 (by omega)
      have hap := after_pos (w := w) (v := v)
      simp only [Bool.true_and, decide_eq_true_eq]
      by_cases hp : 0 < playsF v w
      · have h4 := woFirst_spec w v k1 k2 k3 hp
        have hge := hap.2 hp
        rw [if_pos hp, decide_eq_true hp]
        generalize wfirF v w = s at *
        generalize afterF w v = q at *
        (repeat' ((conv => whnf); first | refine CondVC.t ?_ | refine CondVC.f ?_ | refine CondVC.dec (fun h => ?_) (fun h => ?_) | refine CondVC.ndec (fun h => ?_) (fun h => ?_) | refine CondVC.mk (fun h => ?_) (fun h => ?_) | refine ArVC.i64 (by first | omega | (simp only; omega)) ?_ | refine SideVC.mk (by first | omega | decide | (simp only; omega) | (simp [slS]; done) | (simp [slS]; omega) | (simp only [byteE_len, mvE_len, strE_len, intE_len, esC_len, List.length_cons, List.length_nil, List.length_append, List.length_replicate, List.length_set, Int.toNat_natCast, and_true] at *; omega)) ?_ | refine LoopN.go ?_ | exact trivial | refine AltVC.mk ?_ ?_ | refine HeldVC.mk rfl ?_ | refine CallVC.pure h1 rfl ?_ | refine CallVC.pure h2 rfl ?_ | refine CallVC.pure h3 rfl ?_ | refine CallVC.pure h4 rfl ?_ | refine OpVC.more tt_ok ?_ | refine RestVC.ext tt_ok ?_)); all_goals (conv => whnf)
        all_goals first
          | (exfalso; omega)
          | exact RetVC.res rfl rfl
      · have hlt : ¬ 0 ≤ afterF w v := fun h => hp (hap.1 h)
        rw [if_neg hp, decide_eq_false hp]
        generalize afterF w v = q at *
        (repeat' ((conv => whnf); first | refine CondVC.t ?_ | refine CondVC.f ?_ | refine CondVC.dec (fun h => ?_) (fun h => ?_) | refine CondVC.ndec (fun h => ?_) (fun h => ?_) | refine CondVC.mk (fun h => ?_) (fun h => ?_) | refine ArVC.i64 (by first | omega | (simp only; omega)) ?_ | refine SideVC.mk (by first | omega | decide | (simp only; omega) | (simp [slS]; done) | (simp [slS]; omega) | (simp only [byteE_len, mvE_len, strE_len, intE_len, esC_len, List.length_cons, List.length_nil, List.length_append, List.length_replicate, List.length_set, Int.toNat_natCast, and_true] at *; omega)) ?_ | refine LoopN.go ?_ | exact trivial | refine AltVC.mk ?_ ?_ | refine HeldVC.mk rfl ?_ | refine CallVC.pure h1 rfl ?_ | refine CallVC.pure h2 rfl ?_ | refine CallVC.pure h3 rfl ?_ | refine OpVC.more tt_ok ?_ | refine RestVC.ext tt_ok ?_)); all_goals (conv => whnf)
        all_goals first
          | (exfalso; omega)
          | exact RetVC.res rfl rfl
theorem lawWordBetween_spec (w : Tx) (hw : w.length ≤ 9223372036854775807) (v : Tx) (hv : v.length ≤ 9223372036854775807) : Spec Tryd.prog 3 [.c (.str w), .c (.str v)] [] (isRes [vb true] []) := by
  refine Spec.of_wpx tt_ok Tryd.func3 (by kernel_rfl) rfl ?_
  (repeat' ((conv => whnf); first | refine CondVC.t ?_ | refine CondVC.f ?_ | refine CondVC.dec (fun h => ?_) (fun h => ?_) | refine CondVC.ndec (fun h => ?_) (fun h => ?_) | refine CondVC.mk (fun h => ?_) (fun h => ?_) | refine ArVC.i64 (by first | omega | (simp only; omega)) ?_ | refine SideVC.mk (by first | omega | decide | (simp only; omega) | (simp [slS]; done) | (simp [slS]; omega) | (simp only [byteE_len, mvE_len, strE_len, intE_len, esC_len, List.length_cons, List.length_nil, List.length_append, List.length_replicate, List.length_set, Int.toNat_natCast, and_true] at *; omega)) ?_ | refine LoopN.go ?_ | exact trivial | refine AltVC.mk ?_ ?_ | refine HeldVC.mk rfl ?_ | refine CallVC.pure (specWordBetween_spec w v (by omega) (by omega)) rfl ?_ | refine CallVC.pure (implWordBetween_spec w v (by omega) (by omega)) rfl ?_ | refine OpVC.more tt_ok ?_ | refine RestVC.ext tt_ok ?_)); all_goals (conv => whnf)
  all_goals first | exact RetVC.res rfl rfl | (exfalso; simp_all; done)

/-! ### The longest play, with its memo -/
def longM (es : List (C × V)) : Mem := [(4, .box 41 [.mp 14]), (14, .ext (.mp none es)), (5, .box 42 [.fn 33 [4, 5]])]
theorem long1_spec : ∀ (n : Nat) (w : Tx) (es : List (C × V)), wayF w < n → w.length ≤ 1000 → okFree both es →
    Spec Tryd.prog 33 [.c (.str w), .c (.ptr 4 0), .c (.ptr 5 0)] (longM es) (exRes (okFree both) (fun _ => [i64 (freeF w both)]) longM)
  | 0, w, _, hn, _, _ => absurd hn (Nat.not_lt_zero _)
  | n + 1, w, es, hn, hw, hes => by
    have h1 := moves_spec w both (by omega)
    have hin : ∀ m ∈ movesF w both, _ := fun m hm => movesF_in hm
    have hway : ∀ m ∈ movesF w both, _ := fun m hm => way_made hm
    have hend : ∀ k, (movesF w both).length ≤ k → _ := fun k h => freeTo_end w both h
    have hll := movesF_len w both
    have hsucc : ∀ k (h : k < (movesF w both).length), freeTo w both (k + 1) = max (freeTo w both k) (1 + freeF (madeF w (movesF w both)[k]) both) := fun k h => foldl_take h
    have hzero : freeTo w both 0 = 0 := rfl
    have hbd := freeTo_bound w both
    have hws := way_small hw
    have hrec : ∀ (m : Mv) (es : List (C × V)), wayF (madeF w m) < wayF w → okFree both es → Spec Tryd.prog 33 [.c (.str (madeF w m)), .c (.ptr 4 0), .c (.ptr 5 0)] (longM es) (exRes (okFree both) (fun _ => [i64 (freeF (madeF w m) both)]) longM) :=
      fun m es hm he => long1_spec n (madeF w m) es (by omega) (by rw [madeF_len]; exact hw) he
    have hfb : ∀ m, _ := fun m => freeF_bound both _ (madeF w m) (Nat.le_refl _)
    have hget : ∀ {v : V}, getM es (.str w) = some v → v = i64 (freeF w both) := fun h => okFree_get hes h
    have hset : ∀ es, okFree both es → okFree both (setM es (.str w) (i64 (freeF w both))) := fun es h => okFree_set h
    generalize freeTo w both = ft at *
    generalize movesF w both = l at *
    have hml := mvE_len l
    unfold longM at *
    refine Spec.of_wpx tt_ok Tryd.func33 (by kernel_rfl) rfl ?_
    (repeat' ((conv => whnf); first | refine CondVC.t ?_ | refine CondVC.f ?_ | refine CondVC.dec (fun h => ?_) (fun h => ?_) | refine CondVC.ndec (fun h => ?_) (fun h => ?_) | refine CondVC.mk (fun h => ?_) (fun h => ?_) | refine ArVC.i64 (by first | omega | (simp only; omega)) ?_ | refine SideVC.mk (by first | omega | decide | (simp only; omega) | (simp [slS]; done) | (simp [slS]; omega) | (simp only [byteE_len, mvE_len, strE_len, intE_len, esC_len, List.length_cons, List.length_nil, List.length_append, List.length_replicate, List.length_set, Int.toNat_natCast, and_true] at *; omega)) ?_ | refine LoopN.go ?_ | exact trivial | refine AltVC.mk ?_ ?_ | refine HeldVC.mk rfl ?_ | (refine LookVC.mk (fun v hv => ?_) (fun hv => ?_); obtain rfl := hget hv) | refine CallVC.res [] rfl h1 rfl ?_ | refine OpVC.more tt_ok ?_ | refine RestVC.ext tt_ok ?_)); all_goals (conv => whnf)
    · exact RetVC.mk rfl ⟨es, hes, rfl, rfl⟩
    refine LoopVC.mk (G := Nat × List (C × V)) (fun g => ⟨[(21, .v (i64 g.1)), (20, .v (i64 l.length)), (19, .v (.c (.sl 1001))), (7, .v (i64 (ft g.1))), (2, .v (.c (.ptr 5 0))), (1, .v (.c (.ptr 4 0))), (0, .v (.c (.str w)))],
        [(1001, .sl 45 2 (mvE l)), (4, .box 41 [.mp 14]), (14, .ext (.mp none g.2)), (5, .box 42 [.fn 33 [4, 5]])]⟩)
      (fun g => g.1 ≤ l.length ∧ okFree both g.2) (fun g => l.length - g.1) (0, es) ⟨by omega, hes⟩ (Sub.mk [] _ ⟨rfl, by rw [hml]; rfl, rfl, by rw [hzero]; rfl, rfl, rfl, rfl, trivial⟩ rfl rfl) ?_
    rintro ⟨k, es⟩ ⟨hk, hes⟩
    simp only at hk hes
    by_cases hlt : k < l.length
    · have hmem := List.getElem_mem hlt
      have g1 : (mvE l)[(k : Int).toNat]? = some (mvC l[k]) := by rw [Int.toNat_natCast]; exact mvE_get hlt
      have hs := hsucc k hlt
      obtain ⟨i1, i2, i3⟩ := hin _ hmem
      have hr := hrec _ es (hway _ hmem) hes
      have hb := hfb l[k]
      have hb2 := hbd k
      have hwm := hway _ hmem
      have hmk := made_spec w l[k] i1 i2 (by omega)
      generalize l[k] = m at *
      generalize madeF w m = w' at *
      generalize freeF w' both = q at *
      (repeat' ((conv => whnf); first | refine CondVC.t ?_ | refine CondVC.f ?_ | refine CondVC.dec (fun h => ?_) (fun h => ?_) | refine CondVC.ndec (fun h => ?_) (fun h => ?_) | refine CondVC.mk (fun h => ?_) (fun h => ?_) | refine ArVC.i64 (by first | omega | (simp only; omega)) ?_ | refine SideVC.mk (by first | omega | decide | (simp only; omega) | (simp [slS]; done) | (simp [slS]; omega) | (simp only [byteE_len, mvE_len, strE_len, intE_len, esC_len, List.length_cons, List.length_nil, List.length_append, List.length_replicate, List.length_set, Int.toNat_natCast, and_true] at *; omega)) ?_ | refine LoopN.go ?_ | exact trivial | refine AltVC.mk ?_ ?_ | refine HeldVC.mk rfl ?_ | refine LoadVC.mk _ g1 ?_ | refine SideVC.mk (by rw [hml]; omega) ?_ | refine DrawVC.tree (id := 8) tt_ok [1001, 9, 4, 5] tr33_8 (by kernel_rfl) (by kernel_rfl) rfl ?_ | refine CallVC.pure hmk rfl ?_ | (refine CallVC.ex [4, 14, 5] rfl hr ?_; intro es' hes'; refine ⟨rfl, ?_⟩) | refine OpVC.more tt_ok ?_ | refine RestVC.ext tt_ok ?_)); all_goals (conv => whnf)
      all_goals first
        | (exfalso; omega)
        | exact ⟨(k + 1, es'), ⟨by omega, hes'⟩, by simp only; omega, Sub.mk [] _ ⟨rfl, rfl, rfl, by rw [hs]; exact congrArg (fun z => some (E.v (i64 z))) (maxEq _ _), rfl, rfl, rfl, trivial⟩ rfl rfl⟩
    · (repeat' ((conv => whnf); first | refine CondVC.t ?_ | refine CondVC.f ?_ | refine CondVC.dec (fun h => ?_) (fun h => ?_) | refine CondVC.ndec (fun h => ?_) (fun h => ?_) | refine CondVC.mk (fun h => ?_) (fun h => ?_) | refine ArVC.i64 (by first | omega | (simp only; omega)) ?_ | refine SideVC.mk (by first | omega | decide | (simp only; omega) | (simp [slS]; done) | (simp [slS]; omega) | (simp only [byteE_len, mvE_len, strE_len, intE_len, esC_len, List.length_cons, List.length_nil, List.length_append, List.length_replicate, List.length_set, Int.toNat_natCast, and_true] at *; omega)) ?_ | refine LoopN.go ?_ | exact trivial | refine AltVC.mk ?_ ?_ | refine HeldVC.mk rfl ?_ | refine OpVC.more tt_ok ?_ | refine RestVC.ext tt_ok ?_)); all_goals (conv => whnf)
      all_goals first
        | (exfalso; omega)
        | (rw [hend k (by omega)]; exact RetVC.mk rfl ⟨_, hset _ hes, rfl, rfl⟩)

theorem most_spec (w : Tx) (es : List (C × V)) (hw : w.length ≤ 1000) (hes : okFree both es) :
    Spec Tryd.prog 33 [.c (.str w), .c (.ptr 4 0), .c (.ptr 5 0)] (longM es) (exRes (okFree both) (fun _ => [i64 (depthF w : Nat)]) longM) := by
  have h := long1_spec (wayF w + 1) w es (by omega) hw hes
  rw [free_depth (wayF w + 1) w (by omega)] at h
  exact h
def longAsk (w : Tx) : Tx := if oneGapF w then longW w else []
theorem implLongestWord_spec (w : Tx) (hw : w.length ≤ 1048576) : Spec Tryd.prog 13 [.c (.str w)] [] (isRes [.c (.str (longAsk w)), vb (oneGapF w)] []) := by
  have h1 := hasOneGap_spec w hw
  unfold longAsk
  refine Spec.of_wpx tt_ok Tryd.func13 (by kernel_rfl) rfl ?_
  cases ha : oneGapF w with
  | false =>
    rw [ha] at h1
    (repeat' ((conv => whnf); first | refine CondVC.t ?_ | refine CondVC.f ?_ | refine CondVC.dec (fun h => ?_) (fun h => ?_) | refine CondVC.ndec (fun h => ?_) (fun h => ?_) | refine CondVC.mk (fun h => ?_) (fun h => ?_) | refine ArVC.i64 (by first | omega | (simp only; omega)) ?_ | refine SideVC.mk (by first | omega | decide | (simp only; omega) | (simp [slS]; done) | (simp [slS]; omega) | (simp only [byteE_len, mvE_len, strE_len, intE_len, esC_len, List.length_cons, List.length_nil, List.length_append, List.length_replicate, List.length_set, Int.toNat_natCast, and_true] at *; omega)) ?_ | refine LoopN.go ?_ | exact trivial | refine AltVC.mk ?_ ?_ | refine HeldVC.mk rfl ?_ | refine CallVC.pure h1 rfl ?_ | refine OpVC.more tt_ok ?_ | refine RestVC.ext tt_ok ?_)); all_goals (conv => whnf)
    all_goals exact RetVC.res rfl rfl
  | true =>
    rw [ha] at h1
    rw [if_pos rfl]
    obtain ⟨k1, k2, k3⟩ := oneGap_ok ha
    have f1 := most_spec w [] (by omega) (fun p hp => by cases hp)
    unfold longM at f1
    obtain ⟨tot, htot⟩ : ∃ tot, tot = longW w := ⟨_, rfl⟩
    rw [← htot]
    have hdp := depth_pot w
    have hpp := pot10 k2
    have htl : tot.length ≤ 100 := by
      rw [htot, longW_len _ w rfl]; omega
    (repeat' ((conv => whnf); first | refine CondVC.t ?_ | refine CondVC.f ?_ | refine CondVC.dec (fun h => ?_) (fun h => ?_) | refine CondVC.ndec (fun h => ?_) (fun h => ?_) | refine CondVC.mk (fun h => ?_) (fun h => ?_) | refine ArVC.i64 (by first | omega | (simp only; omega)) ?_ | refine SideVC.mk (by first | omega | decide | (simp only; omega) | (simp [slS]; done) | (simp [slS]; omega) | (simp only [byteE_len, mvE_len, strE_len, intE_len, esC_len, List.length_cons, List.length_nil, List.length_append, List.length_replicate, List.length_set, Int.toNat_natCast, and_true] at *; omega)) ?_ | refine LoopN.go ?_ | exact trivial | refine AltVC.mk ?_ ?_ | refine HeldVC.mk rfl ?_ | refine CallVC.pure h1 rfl ?_ | (refine CallVC.ex [4, 14, 5] rfl f1 ?_; intro e1 he1; refine ⟨rfl, ?_⟩) | refine OpVC.more tt_ok ?_ | refine RestVC.ext tt_ok ?_)); all_goals (conv => whnf)
    refine LoopVC.mk (G := Tx × Tx × List (C × V)) (fun γ => ⟨[(7, .v (i64 (depthF γ.1 : Nat))), (6, .v (.c (.str γ.2.1))), (5, .v (.c (.ptr 5 0))), (4, .v (.c (.ptr 4 0))), (0, .v (.c (.str γ.1)))],
        [(4, .box 41 [.mp 14]), (14, .ext (.mp none γ.2.2)), (5, .box 42 [.fn 33 [4, 5]])]⟩)
      (fun γ => γ.1.length ≤ 10 ∧ γ.1.count 46 = 1 ∧ γ.2.1 ++ longW γ.1 = tot ∧ okFree both γ.2.2) (fun γ => depthF γ.1) (w, [], e1) ⟨k2, k3, by rw [htot]; rfl, he1⟩ (Sub.mk [] _ ⟨rfl, rfl, rfl, rfl, rfl, trivial⟩ rfl rfl) ?_
    rintro ⟨w', out, es⟩ ⟨hwl, hwg, hout, hes⟩
    simp only at hwl hwg hout hes
    have hol : out.length ≤ 100 := by have := congrArg List.length hout; simp at this; omega
    have hdp' := depth_pot w'
    have hpp' := pot10 hwl
    cases hd : depthF w' with
    | zero =>
      have e1 : tot = out := by rw [← hout, longW_nil hd, List.append_nil]
      rw [e1]
      simp only [hd]
      (repeat' ((conv => whnf); first | refine CondVC.t ?_ | refine CondVC.f ?_ | refine CondVC.dec (fun h => ?_) (fun h => ?_) | refine CondVC.ndec (fun h => ?_) (fun h => ?_) | refine CondVC.mk (fun h => ?_) (fun h => ?_) | refine ArVC.i64 (by first | omega | (simp only; omega)) ?_ | refine SideVC.mk (by first | omega | decide | (simp only; omega) | (simp [slS]; done) | (simp [slS]; omega) | (simp only [byteE_len, mvE_len, strE_len, intE_len, esC_len, List.length_cons, List.length_nil, List.length_append, List.length_replicate, List.length_set, Int.toNat_natCast, and_true] at *; omega)) ?_ | refine LoopN.go ?_ | exact trivial | refine AltVC.mk ?_ ?_ | refine HeldVC.mk rfl ?_ | refine OpVC.more tt_ok ?_ | refine RestVC.ext tt_ok ?_)); all_goals (conv => whnf)
      all_goals first
        | (exfalso; omega)
        | exact RetVC.res rfl rfl
    | succ d =>
      obtain ⟨mp, hmp⟩ := pickD_some hd
      have hstep := fun m (h : pickD w' = some m) => longW_step h
      have hfind : ∀ k (h : k < (woL w').length), (decide (depthF (madeF w' (woL w')[k]) + 1 = depthF w')) = true → (∀ j (hj : j < (woL w').length), j < k → decide (depthF (madeF w' (woL w')[j]) + 1 = depthF w') = false) → pickD w' = some (woL w')[k] := fun k h h1 h2 => find_at h h1 h2
      have hnone : (∀ j (hj : j < (woL w').length), decide (depthF (madeF w' (woL w')[j]) + 1 = depthF w') = false) → False := fun h => by
        have h1 := List.mem_of_find?_eq_some hmp
        obtain ⟨j, hj, e⟩ := List.getElem_of_mem h1
        have h2 := h j hj
        rw [e] at h2
        have h3 := (pickD_mem hmp).2
        rw [decide_eq_true h3] at h2
        cases h2
      have hin : ∀ m ∈ woL w', _ := fun m hm => movesF_in (woL_mem.1 hm)
      have hdl : ∀ m ∈ woL w', _ := fun m hm => depth_made (woL_mem.1 hm)
      have hmk : ∀ m ∈ woL w', _ := fun m hm => made_spec w' m (hin m hm).1 (hin m hm).2.1 (by omega)
      have hone : ∀ m ∈ woL w', _ := fun m hm => one_made hwg (woL_mem.1 hm)
      have hfr : ∀ m, m ∈ woL w' → ∀ es, okFree both es → _ := fun m hm es hes => most_spec (madeF w' m) es (by rw [madeF_len]; omega) hes
      have h70 := Spec.ren [(1001, 2101)] [(2101, 1001)] (moves_spec w' [70] (by omega)) rfl rfl rfl
      have h84 := Spec.ren [(1001, 2102)] [(2102, 1001)] (moves_spec w' [84] (by omega)) rfl rfl rfl
      have l70 := movesF_len w' [70]
      have l84 := movesF_len w' [84]
      have hc := Spec.ren [(1000, 27), (1001, 2101), (1002, 2102), (1003, 2103)] [(27, 1000), (2101, 1001), (2102, 1002), (2103, 1003)] (concat_spec (movesF w' [70]) (movesF w' [84]) (by omega) (by omega)) rfl rfl rfl
      rw [show movesF w' [70] ++ movesF w' [84] = woL w' from rfl] at hc
      have hll := woL_len hwg
      unfold longM at hfr
      rw [hd] at hfind hnone hdl
      generalize woL w' = L at *
      generalize movesF w' [70] = m70 at *
      generalize movesF w' [84] = m84 at *
      have hml := mvE_len L
      simp only [hd]
      (repeat' ((conv => whnf); first | refine CondVC.t ?_ | refine CondVC.f ?_ | refine CondVC.dec (fun h => ?_) (fun h => ?_) | refine CondVC.ndec (fun h => ?_) (fun h => ?_) | refine CondVC.mk (fun h => ?_) (fun h => ?_) | refine ArVC.i64 (by first | omega | (simp only; omega)) ?_ | refine SideVC.mk (by first | omega | decide | (simp only; omega) | (simp [slS]; done) | (simp [slS]; omega) | (simp only [byteE_len, mvE_len, strE_len, intE_len, esC_len, List.length_cons, List.length_nil, List.length_append, List.length_replicate, List.length_set, Int.toNat_natCast, and_true] at *; omega)) ?_ | refine LoopN.go ?_ | exact trivial | refine AltVC.mk ?_ ?_ | refine HeldVC.mk rfl ?_ | refine CallVC.res [] rfl h70 rfl ?_ | refine CallVC.res [] rfl h84 rfl ?_ | refine RestVC2.nestBuild2 tt_ok 45 2 rfl rfl rfl rfl rfl rfl rfl rfl ?_ | refine CallVC.res [27, 2101, 2102] rfl hc rfl ?_ | refine OpVC.more tt_ok ?_ | refine RestVC.ext tt_ok ?_)); all_goals (conv => whnf)
      all_goals try (exfalso; omega)
      refine LoopVC.mk (G := Nat × List (C × V)) (fun γ => ⟨[(30, .v (i64 γ.1)), (29, .v (i64 L.length)), (28, .v (.c (.sl 2103))), (7, .v (i64 ((d + 1 : Nat) : Int))), (6, .v (.c (.str out))), (5, .v (.c (.ptr 5 0))), (4, .v (.c (.ptr 4 0))), (0, .v (.c (.str w')))],
          [(2103, .sl 45 2 (mvE L)), (4, .box 41 [.mp 14]), (14, .ext (.mp none γ.2)), (5, .box 42 [.fn 33 [4, 5]])]⟩)
        (fun γ => γ.1 ≤ L.length ∧ okFree both γ.2 ∧ ∀ j (hj : j < L.length), j < γ.1 → decide (depthF (madeF w' L[j]) + 1 = d + 1) = false) (fun γ => L.length - γ.1) (0, es) ⟨Nat.zero_le _, hes, fun j hj h => absurd h (Nat.not_lt_zero _)⟩ (Sub.mk [] _ ⟨rfl, by rw [hml]; rfl, rfl, rfl, rfl, rfl, rfl, rfl, trivial⟩ rfl rfl) ?_
      rintro ⟨k, es⟩ ⟨hk, hes, hno⟩
      simp only at hk hes hno
      by_cases hkl : k < L.length
      · have hmem := List.getElem_mem hkl
        have g1 : (mvE L)[(k : Int).toNat]? = some (mvC L[k]) := by rw [Int.toNat_natCast]; exact mvE_get hkl
        have h6 := hmk _ hmem
        have h7 := hfr _ hmem es hes
        have hfk := hfind k hkl
        have hok1 := hone _ hmem
        have hdm := hdl _ hmem
        have hsl := sign_slice (hin _ hmem).1
        have hml2 := madeF_len w' L[k]
        obtain ⟨i1, i2, i3⟩ := hin _ hmem
        have hst := hstep L[k]
        generalize hLk : L[k] = m at *
        obtain ⟨u, hu⟩ : ∃ u, u = madeF w' m := ⟨_, rfl⟩
        rw [← hu] at h6 h7 hok1 hml2 hfk hst hdm
        obtain ⟨q, hqe⟩ : ∃ q, q = depthF u := ⟨_, rfl⟩
        rw [← hqe] at h7 hfk hdm
        by_cases hq : q = d
        · have hst := hst (hfk (decide_eq_true (by omega)) hno)
          rw [hst] at hout
          have hto : out ++ slS w' m.1.toNat (m.1 + 1).toNat = out ++ [sgnF w' m] := by rw [hsl]
          have hdd : i64 ((d + 1 : Nat) - 1 : Int) = i64 (depthF u : Nat) := by rw [← hqe, hq]; congr 2; omega
          (repeat' ((conv => whnf); first | refine CondVC.t ?_ | refine CondVC.f ?_ | refine CondVC.dec (fun h => ?_) (fun h => ?_) | refine CondVC.ndec (fun h => ?_) (fun h => ?_) | refine CondVC.mk (fun h => ?_) (fun h => ?_) | refine ArVC.i64 (by first | omega | (simp only; omega)) ?_ | refine SideVC.mk (by first | omega | decide | (simp only; omega) | (simp [slS]; done) | (simp [slS]; omega) | (simp only [byteE_len, mvE_len, strE_len, intE_len, esC_len, List.length_cons, List.length_nil, List.length_append, List.length_replicate, List.length_set, Int.toNat_natCast, and_true] at *; omega)) ?_ | refine LoopN.go ?_ | exact trivial | refine AltVC.mk ?_ ?_ | refine HeldVC.mk rfl ?_ | refine LoadVC.mk _ g1 ?_ | refine SideVC.mk (by rw [hml]; omega) ?_ | refine CallVC.pure h6 rfl ?_ | (refine CallVC.ex [4, 14, 5] rfl h7 ?_; intro es2 hes2; refine ⟨rfl, ?_⟩) | refine OpVC.more tt_ok ?_ | refine RestVC.ext tt_ok ?_)); all_goals (conv => whnf)
          all_goals first
            | (exfalso; omega)
            | exact ⟨(u, out ++ [sgnF w' m], es2), ⟨by simp only; omega, hok1, by simp only [List.append_assoc]; exact hout, hes2⟩, by simp only [hd]; omega, Sub.mk [] _ ⟨congrArg (fun z => some (E.v z)) hdd, congrArg (fun z => some (E.v (.c (.str z)))) hto, rfl, rfl, rfl, trivial⟩ rfl rfl⟩
        · (repeat' ((conv => whnf); first | refine CondVC.t ?_ | refine CondVC.f ?_ | refine CondVC.dec (fun h => ?_) (fun h => ?_) | refine CondVC.ndec (fun h => ?_) (fun h => ?_) | refine CondVC.mk (fun h => ?_) (fun h => ?_) | refine ArVC.i64 (by first | omega | (simp only; omega)) ?_ | refine SideVC.mk (by first | omega | decide | (simp only; omega) | (simp [slS]; done) | (simp [slS]; omega) | (simp only [byteE_len, mvE_len, strE_len, intE_len, esC_len, List.length_cons, List.length_nil, List.length_append, List.length_replicate, List.length_set, Int.toNat_natCast, and_true] at *; omega)) ?_ | refine LoopN.go ?_ | exact trivial | refine AltVC.mk ?_ ?_ | refine HeldVC.mk rfl ?_ | refine LoadVC.mk _ g1 ?_ | refine SideVC.mk (by rw [hml]; omega) ?_ | refine CallVC.pure h6 rfl ?_ | (refine CallVC.ex [4, 14, 5] rfl h7 ?_; intro es2 hes2; refine ⟨rfl, ?_⟩) | refine OpVC.more tt_ok ?_ | refine RestVC.ext tt_ok ?_)); all_goals (conv => whnf)
          all_goals first
            | (exfalso; omega)
            | exact ⟨(k + 1, es2), ⟨by omega, hes2, fun j hj hjk => by
                by_cases e : j = k
                · subst e; rw [hLk, ← hu, ← hqe]; exact decide_eq_false (by omega)
                · exact hno j hj (by omega)⟩, by simp only; omega, Sub.mk [] _ ⟨rfl, rfl, rfl, rfl, rfl, rfl, rfl, rfl, trivial⟩ rfl rfl⟩
      · exact (hnone fun j hj => hno j hj (by omega)).elim
theorem specLongestWord_spec (w : Tx) (hw : w.length ≤ 1048576) : Spec Tryd.prog 12 [.c (.str w)] [] (isRes [.c (.str (longAsk w)), vb (oneGapF w)] []) := by
  have h1 := woOne_spec w hw
  unfold longAsk
  refine Spec.of_wpx tt_ok Tryd.func12 (by kernel_rfl) rfl ?_
  cases ha : oneGapF w with
  | false =>
    rw [ha] at h1
    (repeat' ((conv => whnf); first | refine CondVC.t ?_ | refine CondVC.f ?_ | refine CondVC.dec (fun h => ?_) (fun h => ?_) | refine CondVC.ndec (fun h => ?_) (fun h => ?_) | refine CondVC.mk (fun h => ?_) (fun h => ?_) | refine ArVC.i64 (by first | omega | (simp only; omega)) ?_ | refine SideVC.mk (by first | omega | decide | (simp only; omega) | (simp [slS]; done) | (simp [slS]; omega) | (simp only [byteE_len, mvE_len, strE_len, intE_len, esC_len, List.length_cons, List.length_nil, List.length_append, List.length_replicate, List.length_set, Int.toNat_natCast, and_true] at *; omega)) ?_ | refine LoopN.go ?_ | exact trivial | refine AltVC.mk ?_ ?_ | refine HeldVC.mk rfl ?_ | refine CallVC.pure h1 rfl ?_ | refine OpVC.more tt_ok ?_ | refine RestVC.ext tt_ok ?_)); all_goals (conv => whnf)
    all_goals exact RetVC.res rfl rfl
  | true =>
    rw [ha] at h1
    rw [if_pos rfl]
    obtain ⟨k1, k2, k3⟩ := oneGap_ok ha
    have h2 := Spec.ren [(1001, 2001)] [(2001, 1001)] (reLayers_spec w k1 (by omega)) rfl rfl rfl
    have hg0 : (nestF w)[depthF w]? = some (strE (layF w (depthF w))) := nestTo_get (by omega)
    have hel : (nestF w).length = depthF w + 1 := nestTo_len w _
    have hfew := lay_few k1 (by omega : w.length ≤ 14) (depthF w)
    have hfi : ∀ v ∈ layF w (depthF w), _ := fun v hv => woFirst_spec w v k1 k2 k3 (plays_lay hv)
    have hend := fun b => bestOk_end (b := b) k3
    have hwl : ∀ v, (wfirF v w).length ≤ 100 := fun v => by
      have h1 := wfirF_len v _ w rfl
      have h2 := wayF_le w
      have h3 : w.length * w.length ≤ 10 * 10 := Nat.mul_le_mul k2 k2
      omega
    generalize longW w = tot at *
    generalize layF w (depthF w) = l at *
    generalize nestF w = ne at *
    have hdp := depth_pot w
    have hpp := pot10 k2
    generalize depthF w = D at *
    have hsl := strE_len l
    have hgl : ne[((ne.length : Int) - 1).toNat]? = some (strE l) := by rw [hel, show (((D + 1 : Nat) : Int) - 1).toNat = D by omega]; exact hg0
    (repeat' ((conv => whnf); first | refine CondVC.t ?_ | refine CondVC.f ?_ | refine CondVC.dec (fun h => ?_) (fun h => ?_) | refine CondVC.ndec (fun h => ?_) (fun h => ?_) | refine CondVC.mk (fun h => ?_) (fun h => ?_) | refine ArVC.i64 (by first | omega | (simp only; omega)) ?_ | refine SideVC.mk (by first | omega | decide | (simp only; omega) | (simp [slS]; done) | (simp [slS]; omega) | (simp only [byteE_len, mvE_len, strE_len, intE_len, esC_len, List.length_cons, List.length_nil, List.length_append, List.length_replicate, List.length_set, Int.toNat_natCast, and_true] at *; omega)) ?_ | refine LoopN.go ?_ | exact trivial | refine AltVC.mk ?_ ?_ | refine HeldVC.mk rfl ?_ | refine CallVC.pure h1 rfl ?_ | refine CallVC.res [] rfl h2 rfl ?_ | refine RestVC2.nestAddr tt_ok rfl rfl rfl rfl rfl (by rw [hel]; omega) ?_ | refine RestVC2.nestLoad tt_ok rfl rfl rfl rfl (by rw [hel]; omega) ?_ | refine RestVC2.insLen tt_ok rfl rfl rfl rfl hgl ?_ | refine OpVC.more tt_ok ?_ | refine RestVC.ext tt_ok ?_)); all_goals (conv => whnf)
    all_goals try (exfalso; omega)
    refine LoopVC.mk (G := Nat × Tx) (fun γ => ⟨[(21, .v (i64 γ.1)), (20, .v (i64 l.length)), (19, .v (.c (.ins 2001 ((ne.length : Int) - 1).toNat))), (5, .v (.c (.str γ.2))), (0, .v (.c (.str w)))], [(2001, .ext (.nest 40 9 1 ne []))]⟩)
      (fun γ => γ.1 ≤ l.length ∧ bestOk w l γ.1 γ.2) (fun γ => l.length - γ.1) (0, []) ⟨Nat.zero_le _, bestOk_zero w l⟩ (Sub.mk [] _ ⟨rfl, by rw [hsl]; rfl, rfl, rfl, rfl, trivial⟩ rfl rfl) ?_
    rintro ⟨i, b⟩ ⟨hi, hb⟩
    simp only at hi hb
    by_cases hil : i < l.length
    · have gi : (strE l)[(i : Int).toNat]? = some [.str l[i]] := by rw [Int.toNat_natCast]; exact strE_get hil
      have h5 := hfi _ (List.getElem_mem hil)
      have hnew := bestOk_new hb hil
      have hold := bestOk_old hb hil
      generalize wfirF l[i] w = s at *
      by_cases hi0 : i = 0
      · (repeat' ((conv => whnf); first | refine CondVC.t ?_ | refine CondVC.f ?_ | refine CondVC.dec (fun h => ?_) (fun h => ?_) | refine CondVC.ndec (fun h => ?_) (fun h => ?_) | refine CondVC.mk (fun h => ?_) (fun h => ?_) | refine ArVC.i64 (by first | omega | (simp only; omega)) ?_ | refine SideVC.mk (by first | omega | decide | (simp only; omega) | (simp [slS]; done) | (simp [slS]; omega) | (simp only [byteE_len, mvE_len, strE_len, intE_len, esC_len, List.length_cons, List.length_nil, List.length_append, List.length_replicate, List.length_set, Int.toNat_natCast, and_true] at *; omega)) ?_ | refine LoopN.go ?_ | exact trivial | refine AltVC.mk ?_ ?_ | refine HeldVC.mk rfl ?_ | refine RestVC2.insAddr tt_ok rfl rfl rfl rfl rfl hgl (by rw [hsl]; omega) ?_ | refine RestVC2.insLoad tt_ok rfl rfl rfl hgl gi rfl ?_ | refine CallVC.pure h5 rfl ?_ | refine OpVC.more tt_ok ?_ | refine RestVC.ext tt_ok ?_)); all_goals (conv => whnf)
        all_goals first
          | (exfalso; omega)
          | exact ⟨(i + 1, s), ⟨by simp only; omega, hnew (.inl hi0)⟩, by simp only; omega, Sub.mk [] _ ⟨rfl, rfl, rfl, rfl, rfl, trivial⟩ rfl rfl⟩
          | (exfalso; simp_all; done)
      · cases hlt : ltT s b with
        | true =>
          have hlt2 := hlt
          unfold ltT at hlt2
          (repeat' ((conv => whnf); first | refine CondVC.t ?_ | refine CondVC.f ?_ | refine CondVC.dec (fun h => ?_) (fun h => ?_) | refine CondVC.ndec (fun h => ?_) (fun h => ?_) | refine CondVC.mk (fun h => ?_) (fun h => ?_) | refine ArVC.i64 (by first | omega | (simp only; omega)) ?_ | refine SideVC.mk (by first | omega | decide | (simp only; omega) | (simp [slS]; done) | (simp [slS]; omega) | (simp only [byteE_len, mvE_len, strE_len, intE_len, esC_len, List.length_cons, List.length_nil, List.length_append, List.length_replicate, List.length_set, Int.toNat_natCast, and_true] at *; omega)) ?_ | refine LoopN.go ?_ | exact trivial | refine AltVC.mk ?_ ?_ | refine HeldVC.mk rfl ?_ | refine RestVC2.insAddr tt_ok rfl rfl rfl rfl rfl hgl (by rw [hsl]; omega) ?_ | refine RestVC2.insLoad tt_ok rfl rfl rfl hgl gi rfl ?_ | refine CallVC.pure h5 rfl ?_ | refine OpVC.more tt_ok ?_ | refine RestVC.ext tt_ok ?_)); all_goals (conv => whnf)
          all_goals first
            | (exfalso; omega)
            | exact ⟨(i + 1, s), ⟨by simp only; omega, hnew (.inr hlt)⟩, by simp only; omega, Sub.mk [] _ ⟨rfl, rfl, rfl, rfl, rfl, trivial⟩ rfl rfl⟩
            | (exfalso; simp_all; done)
        | false =>
          have hlt2 := hlt
          unfold ltT at hlt2
          (repeat' ((conv => whnf); first | refine CondVC.t ?_ | refine CondVC.f ?_ | refine CondVC.dec (fun h => ?_) (fun h => ?_) | refine CondVC.ndec (fun h => ?_) (fun h => ?_) | refine CondVC.mk (fun h => ?_) (fun h => ?_) | refine ArVC.i64 (by first | omega | (simp only; omega)) ?_ | refine SideVC.mk (by first | omega | decide | (simp only; omega) | (simp [slS]; done) | (simp [slS]; omega) | (simp only [byteE_len, mvE_len, strE_len, intE_len, esC_len, List.length_cons, List.length_nil, List.length_append, List.length_replicate, List.length_set, Int.toNat_natCast, and_true] at *; omega)) ?_ | refine LoopN.go ?_ | exact trivial | refine AltVC.mk ?_ ?_ | refine HeldVC.mk rfl ?_ | refine RestVC2.insAddr tt_ok rfl rfl rfl rfl rfl hgl (by rw [hsl]; omega) ?_ | refine RestVC2.insLoad tt_ok rfl rfl rfl hgl gi rfl ?_ | refine CallVC.pure h5 rfl ?_ | refine OpVC.more tt_ok ?_ | refine RestVC.ext tt_ok ?_)); all_goals (conv => whnf)
          all_goals first
            | (exfalso; omega)
            | exact ⟨(i + 1, b), ⟨by simp only; omega, hold hi0 hlt⟩, by simp only; omega, Sub.mk [] _ ⟨rfl, rfl, rfl, rfl, rfl, trivial⟩ rfl rfl⟩
            | (exfalso; simp_all; done)
    · have ei : i = l.length := by omega
      subst ei
      have hbe := hend b hb
      subst hbe
      (repeat' ((conv => whnf); first | refine CondVC.t ?_ | refine CondVC.f ?_ | refine CondVC.dec (fun h => ?_) (fun h => ?_) | refine CondVC.ndec (fun h => ?_) (fun h => ?_) | refine CondVC.mk (fun h => ?_) (fun h => ?_) | refine ArVC.i64 (by first | omega | (simp only; omega)) ?_ | refine SideVC.mk (by first | omega | decide | (simp only; omega) | (simp [slS]; done) | (simp [slS]; omega) | (simp only [byteE_len, mvE_len, strE_len, intE_len, esC_len, List.length_cons, List.length_nil, List.length_append, List.length_replicate, List.length_set, Int.toNat_natCast, and_true] at *; omega)) ?_ | refine LoopN.go ?_ | exact trivial | refine AltVC.mk ?_ ?_ | refine HeldVC.mk rfl ?_ | refine OpVC.more tt_ok ?_ | refine RestVC.ext tt_ok ?_)); all_goals (conv => whnf)
      all_goals first
        | (exfalso; omega)
        | exact RetVC.res rfl rfl
theorem lawLongestWord_spec (w : Tx) (hw : w.length ≤ 9223372036854775807) : Spec Tryd.prog 4 [.c (.str w)] [] (isRes [vb true] []) := by
  refine Spec.of_wpx tt_ok Tryd.func4 (by kernel_rfl) rfl ?_
  (repeat' ((conv => whnf); first | refine CondVC.t ?_ | refine CondVC.f ?_ | refine CondVC.dec (fun h => ?_) (fun h => ?_) | refine CondVC.ndec (fun h => ?_) (fun h => ?_) | refine CondVC.mk (fun h => ?_) (fun h => ?_) | refine ArVC.i64 (by first | omega | (simp only; omega)) ?_ | refine SideVC.mk (by first | omega | decide | (simp only; omega) | (simp [slS]; done) | (simp [slS]; omega) | (simp only [byteE_len, mvE_len, strE_len, intE_len, esC_len, List.length_cons, List.length_nil, List.length_append, List.length_replicate, List.length_set, Int.toNat_natCast, and_true] at *; omega)) ?_ | refine LoopN.go ?_ | exact trivial | refine AltVC.mk ?_ ?_ | refine HeldVC.mk rfl ?_ | refine CallVC.pure (specLongestWord_spec w (by omega)) rfl ?_ | refine CallVC.pure (implLongestWord_spec w (by omega)) rfl ?_ | refine OpVC.more tt_ok ?_ | refine RestVC.ext tt_ok ?_)); all_goals (conv => whnf)
  all_goals first | exact RetVC.res rfl rfl | (exfalso; simp_all; done)
end Go.Proofs.YtblihaicbhdbdaaDoor.X
