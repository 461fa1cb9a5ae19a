/- Words of moves: the program's and the reference's. No condition beyond each statement's. -/
import Derived.Test.YtjpabjmcooiflaaDoorMade
namespace Go.Proofs.YtjpabjmcooiflaaDoor.X
open Go.Proofs
set_option maxRecDepth 100000
set_option linter.unusedVariables false
set_option linter.unusedSimpArgs false

def playF : Tx → Tx → List Mv → List Mv × Tx
  | [], w, l => (l, w)
  | c :: s, w, l => match movesF w [c] with
    | [] => (l, w)
    | m :: _ => playF s (madeF w m) (l ++ [m])
theorem playF_len (s w : Tx) (l : List Mv) : (playF s w l).1.length ≤ l.length + s.length := by
  induction s generalizing w l with
  | nil => simp [playF]
  | cons c s ih =>
    unfold playF
    split
    · simp
    · refine Nat.le_trans (ih _ _) ?_
      simp; omega
theorem drop_at {s : Tx} {k : Nat} (h : k < s.length) : s.drop k = s.getD k 0 :: s.drop (k + 1) := by
  rw [List.drop_eq_getElem_cons h, List.getD_eq_getElem?_getD, List.getElem?_eq_getElem h]; rfl
theorem playF_stop {s w : Tx} {l : List Mv} {k : Nat} (h : k < s.length) (hm : movesF w [s.getD k 0] = []) : playF (s.drop k) w l = (l, w) := by
  rw [drop_at h, playF, hm]
theorem playF_go {s w : Tx} {l ms : List Mv} {m : Mv} {k : Nat} (h : k < s.length) (hm : movesF w [s.getD k 0] = m :: ms) : playF (s.drop k) w l = playF (s.drop (k + 1)) (madeF w m) (l ++ [m]) := by
  rw [drop_at h, playF, hm]
theorem playF_end {s w : Tx} {l : List Mv} {k : Nat} (h : s.length ≤ k) : playF (s.drop k) w l = (l, w) := by
  rw [List.drop_eq_nil_of_le h, playF]

def okSg (b : UInt8) : Bool := decide (b = 84) || decide (b = 70)
def wordF (s : Tx) : Bool := decide ((s.length : Int) ≤ 40) && s.all okSg
def oneGapF (w : Tx) : Bool := lineOf w 10 && decide (((w.count 46 : Nat) : Int) = 1)
def askedF (w s : Tx) : Bool := oneGapF w && wordF s

theorem liCount_spec (w : Tx) (b : UInt8) (hw : w.length ≤ 1000000) : Spec Tryd.prog 93 [.c (.str w), .c (.int .u8 (b.toNat : Nat))] [] (isRes [i64 ((w.count b : Nat) : Int)] []) := by
  refine Spec.of_wpx tt_ok Tryd.func93 (by kernel_rfl) rfl ?_
  (repeat' ((conv => whnf); first | refine CondVC.t ?_ | refine CondVC.f ?_ | refine CondVC.dec (fun h => ?_) (fun h => ?_) | refine CondVC.ndec (fun h => ?_) (fun h => ?_) | refine CondVC.mk (fun h => ?_) (fun h => ?_) | refine ArVC.i64 (by omega) ?_ | refine SideVC.mk (by first | omega | decide | (simp [slS]; done) | (simp [slS]; omega) | (simp only [byteE_len, mvE_len, strE_len, intE_len, esC_len, List.length_cons, List.length_nil, List.length_append, List.length_replicate, List.length_set, Int.toNat_natCast, and_true] at *; omega)) ?_ | refine LoopN.go ?_ | exact trivial | refine AltVC.mk ?_ ?_ | refine HeldVC.mk rfl ?_ | refine OpVC.more tt_ok ?_ | refine RestVC.ext tt_ok ?_)); all_goals (conv => whnf)
  refine LoopVC.mk (G := Nat) (fun k => ⟨[(6, .v (i64 k)), (5, .v (i64 (((w.take k).count b : Nat) : Int))), (1, .v (.c (.int .u8 (b.toNat : Nat)))), (0, .v (.c (.str w)))], []⟩)
    (fun k => k ≤ w.length) (fun k => w.length - k) 0 (by omega) (Sub.mk [] [] ⟨rfl, rfl, rfl, rfl, trivial⟩ rfl rfl) ?_
  intro k hk
  have hc : (w.take k).count b ≤ k := Nat.le_trans List.count_le_length (by simp; omega)
  by_cases hlt : k < w.length
  · have hs : (w.take (k + 1)).count b = (w.take k).count b + if w.getD k 0 = b then 1 else 0 := by
      rw [List.take_succ_eq_append_getElem hlt, List.count_append, List.getD_eq_getElem?_getD, List.getElem?_eq_getElem hlt]
      simp [List.count_cons]
    (repeat' ((conv => whnf); first | refine CondVC.t ?_ | refine CondVC.f ?_ | refine CondVC.dec (fun h => ?_) (fun h => ?_) | refine CondVC.ndec (fun h => ?_) (fun h => ?_) | refine CondVC.mk (fun h => ?_) (fun h => ?_) | refine ArVC.i64 (by omega) ?_ | refine SideVC.mk (by first | omega | decide | (simp [slS]; done) | (simp [slS]; omega) | (simp only [byteE_len, mvE_len, strE_len, intE_len, esC_len, List.length_cons, List.length_nil, List.length_append, List.length_replicate, List.length_set, Int.toNat_natCast, and_true] at *; omega)) ?_ | refine LoopN.go ?_ | exact trivial | refine AltVC.mk ?_ ?_ | refine HeldVC.mk rfl ?_ | refine OpVC.more tt_ok ?_ | refine RestVC.ext tt_ok ?_)); all_goals (conv => whnf)
    all_goals simp only [Int.toNat_natCast, u8_inj] at *
    all_goals first
      | (exfalso; omega)
      | (rw [if_pos (by assumption)] at hs
         exact ⟨k + 1, by omega, by omega, Sub.mk [] _ ⟨rfl, by rw [hs]; exact congrArg (fun z => some (E.v (i64 z))) (show (((w.take k).count b : Nat) : Int) + 1 = (((w.take k).count b + 1 : Nat) : Int) by omega), rfl, rfl, trivial⟩ rfl rfl⟩)
      | (rw [if_neg (by assumption)] at hs
         exact ⟨k + 1, by omega, by omega, Sub.mk [] _ ⟨rfl, by rw [hs]; rfl, rfl, rfl, trivial⟩ rfl rfl⟩)
  · (repeat' ((conv => whnf); first | refine CondVC.t ?_ | refine CondVC.f ?_ | refine CondVC.dec (fun h => ?_) (fun h => ?_) | refine CondVC.ndec (fun h => ?_) (fun h => ?_) | refine CondVC.mk (fun h => ?_) (fun h => ?_) | refine ArVC.i64 (by omega) ?_ | refine SideVC.mk (by first | omega | decide | (simp [slS]; done) | (simp [slS]; omega) | (simp only [byteE_len, mvE_len, strE_len, intE_len, esC_len, List.length_cons, List.length_nil, List.length_append, List.length_replicate, List.length_set, Int.toNat_natCast, and_true] at *; omega)) ?_ | refine LoopN.go ?_ | exact trivial | refine AltVC.mk ?_ ?_ | refine HeldVC.mk rfl ?_ | refine OpVC.more tt_ok ?_ | refine RestVC.ext tt_ok ?_)); all_goals (conv => whnf)
    all_goals first
      | (exfalso; omega)
      | exact RetVC.res (by rw [List.take_of_length_le (by omega)]; rfl) rfl

theorem lineFew (w : Tx) : (lineOf w 12 && decide ((w.length : Int) ≤ 10)) = lineOf w 10 := by
  unfold lineOf
  cases w.all okCh
  · simp
  · simp only [Bool.and_true]
    rw [Bool.eq_iff_iff]; simp only [Bool.and_eq_true, decide_eq_true_eq]; omega
theorem reFew_spec (w : Tx) (hw : w.length ≤ 1048576) : Spec Tryd.prog 92 [.c (.str w)] [] (isRes [vb (lineOf w 10)] []) := by
  refine Spec.of_wpx tt_ok Tryd.func92 (by kernel_rfl) rfl ?_
  have h1 := liGood_spec w (by omega)
  have hr := lineFew w
  cases hl : lineOf w 12 with
  | true =>
    rw [hl] at h1 hr
    (repeat' ((conv => whnf); first | refine CondVC.t ?_ | refine CondVC.f ?_ | refine CondVC.dec (fun h => ?_) (fun h => ?_) | refine CondVC.ndec (fun h => ?_) (fun h => ?_) | refine CondVC.mk (fun h => ?_) (fun h => ?_) | refine ArVC.i64 (by omega) ?_ | refine SideVC.mk (by first | omega | decide | (simp [slS]; done) | (simp [slS]; omega) | (simp only [byteE_len, mvE_len, strE_len, intE_len, esC_len, List.length_cons, List.length_nil, List.length_append, List.length_replicate, List.length_set, Int.toNat_natCast, and_true] at *; omega)) ?_ | refine LoopN.go ?_ | exact trivial | refine AltVC.mk ?_ ?_ | refine HeldVC.mk rfl ?_ | refine CallVC.pure h1 rfl ?_ | refine OpVC.more tt_ok ?_ | refine RestVC.ext tt_ok ?_)); all_goals (conv => whnf)
    all_goals exact RetVC.res (by rw [← hr]; simp [vb]) rfl
  | false =>
    rw [hl] at h1 hr
    (repeat' ((conv => whnf); first | refine CondVC.t ?_ | refine CondVC.f ?_ | refine CondVC.dec (fun h => ?_) (fun h => ?_) | refine CondVC.ndec (fun h => ?_) (fun h => ?_) | refine CondVC.mk (fun h => ?_) (fun h => ?_) | refine ArVC.i64 (by omega) ?_ | refine SideVC.mk (by first | omega | decide | (simp [slS]; done) | (simp [slS]; omega) | (simp only [byteE_len, mvE_len, strE_len, intE_len, esC_len, List.length_cons, List.length_nil, List.length_append, List.length_replicate, List.length_set, Int.toNat_natCast, and_true] at *; omega)) ?_ | refine LoopN.go ?_ | exact trivial | refine AltVC.mk ?_ ?_ | refine HeldVC.mk rfl ?_ | refine CallVC.pure h1 rfl ?_ | refine OpVC.more tt_ok ?_ | refine RestVC.ext tt_ok ?_)); all_goals (conv => whnf)
    all_goals exact RetVC.res (by rw [← hr]; simp [vb]) rfl
theorem woOne_spec (w : Tx) (hw : w.length ≤ 1048576) : Spec Tryd.prog 68 [.c (.str w)] [] (isRes [vb (oneGapF w)] []) := by
  refine Spec.of_wpx tt_ok Tryd.func68 (by kernel_rfl) rfl ?_
  have h1 := reFew_spec w (by omega)
  cases hl : lineOf w 10 with
  | true =>
    rw [hl] at h1
    (repeat' ((conv => whnf); first | refine CondVC.t ?_ | refine CondVC.f ?_ | refine CondVC.dec (fun h => ?_) (fun h => ?_) | refine CondVC.ndec (fun h => ?_) (fun h => ?_) | refine CondVC.mk (fun h => ?_) (fun h => ?_) | refine ArVC.i64 (by omega) ?_ | refine SideVC.mk (by first | omega | decide | (simp [slS]; done) | (simp [slS]; omega) | (simp only [byteE_len, mvE_len, strE_len, intE_len, esC_len, List.length_cons, List.length_nil, List.length_append, List.length_replicate, List.length_set, Int.toNat_natCast, and_true] at *; omega)) ?_ | refine LoopN.go ?_ | exact trivial | refine AltVC.mk ?_ ?_ | refine HeldVC.mk rfl ?_ | refine CallVC.pure h1 rfl ?_ | refine CallVC.pure (liCount_spec w 46 (by have := line_len hl; omega)) rfl ?_ | refine OpVC.more tt_ok ?_ | refine RestVC.ext tt_ok ?_)); all_goals (conv => whnf)
    all_goals exact RetVC.res (by simp [oneGapF, hl, vb]) rfl
  | false =>
    rw [hl] at h1
    (repeat' ((conv => whnf); first | refine CondVC.t ?_ | refine CondVC.f ?_ | refine CondVC.dec (fun h => ?_) (fun h => ?_) | refine CondVC.ndec (fun h => ?_) (fun h => ?_) | refine CondVC.mk (fun h => ?_) (fun h => ?_) | refine ArVC.i64 (by omega) ?_ | refine SideVC.mk (by first | omega | decide | (simp [slS]; done) | (simp [slS]; omega) | (simp only [byteE_len, mvE_len, strE_len, intE_len, esC_len, List.length_cons, List.length_nil, List.length_append, List.length_replicate, List.length_set, Int.toNat_natCast, and_true] at *; omega)) ?_ | refine LoopN.go ?_ | exact trivial | refine AltVC.mk ?_ ?_ | refine HeldVC.mk rfl ?_ | refine CallVC.pure h1 rfl ?_ | refine OpVC.more tt_ok ?_ | refine RestVC.ext tt_ok ?_)); all_goals (conv => whnf)
    all_goals exact RetVC.res (by simp [oneGapF, hl, vb]) rfl
theorem isReachLine_spec (w : Tx) (hw : w.length ≤ 1048576) : Spec Tryd.prog 109 [.c (.str w)] [] (isRes [vb (lineOf w 10)] []) := by
  refine Spec.of_wpx tt_ok Tryd.func109 (by kernel_rfl) rfl ?_
  (repeat' ((conv => whnf); first | refine CondVC.t ?_ | refine CondVC.f ?_ | refine CondVC.dec (fun h => ?_) (fun h => ?_) | refine CondVC.ndec (fun h => ?_) (fun h => ?_) | refine CondVC.mk (fun h => ?_) (fun h => ?_) | refine ArVC.i64 (by omega) ?_ | refine SideVC.mk (by first | omega | decide | (simp [slS]; done) | (simp [slS]; omega) | (simp only [byteE_len, mvE_len, strE_len, intE_len, esC_len, List.length_cons, List.length_nil, List.length_append, List.length_replicate, List.length_set, Int.toNat_natCast, and_true] at *; omega)) ?_ | refine LoopN.go ?_ | exact trivial | refine AltVC.mk ?_ ?_ | refine HeldVC.mk rfl ?_ | refine CallVC.pure (isLineOf_spec w 10 (by omega)) rfl ?_ | refine OpVC.more tt_ok ?_ | refine RestVC.ext tt_ok ?_)); all_goals (conv => whnf)
  all_goals exact RetVC.res rfl rfl
theorem hasOneGap_spec (w : Tx) (hw : w.length ≤ 1048576) : Spec Tryd.prog 95 [.c (.str w)] [] (isRes [vb (oneGapF w)] []) := by
  refine Spec.of_wpx tt_ok Tryd.func95 (by kernel_rfl) rfl ?_
  have h1 := isReachLine_spec w (by omega)
  cases hl : lineOf w 10 with
  | true =>
    rw [hl] at h1
    (repeat' ((conv => whnf); first | refine CondVC.t ?_ | refine CondVC.f ?_ | refine CondVC.dec (fun h => ?_) (fun h => ?_) | refine CondVC.ndec (fun h => ?_) (fun h => ?_) | refine CondVC.mk (fun h => ?_) (fun h => ?_) | refine ArVC.i64 (by omega) ?_ | refine SideVC.mk (by first | omega | decide | (simp [slS]; done) | (simp [slS]; omega) | (simp only [byteE_len, mvE_len, strE_len, intE_len, esC_len, List.length_cons, List.length_nil, List.length_append, List.length_replicate, List.length_set, Int.toNat_natCast, and_true] at *; omega)) ?_ | refine LoopN.go ?_ | exact trivial | refine AltVC.mk ?_ ?_ | refine HeldVC.mk rfl ?_ | refine CallVC.pure h1 rfl ?_ | refine CallVC.pure (count_spec1 w 46) rfl ?_ | refine OpVC.more tt_ok ?_ | refine RestVC.ext tt_ok ?_)); all_goals (conv => whnf)
    all_goals exact RetVC.res (by simp [oneGapF, hl, vb]) rfl
  | false =>
    rw [hl] at h1
    (repeat' ((conv => whnf); first | refine CondVC.t ?_ | refine CondVC.f ?_ | refine CondVC.dec (fun h => ?_) (fun h => ?_) | refine CondVC.ndec (fun h => ?_) (fun h => ?_) | refine CondVC.mk (fun h => ?_) (fun h => ?_) | refine ArVC.i64 (by omega) ?_ | refine SideVC.mk (by first | omega | decide | (simp [slS]; done) | (simp [slS]; omega) | (simp only [byteE_len, mvE_len, strE_len, intE_len, esC_len, List.length_cons, List.length_nil, List.length_append, List.length_replicate, List.length_set, Int.toNat_natCast, and_true] at *; omega)) ?_ | refine LoopN.go ?_ | exact trivial | refine AltVC.mk ?_ ?_ | refine HeldVC.mk rfl ?_ | refine CallVC.pure h1 rfl ?_ | refine OpVC.more tt_ok ?_ | refine RestVC.ext tt_ok ?_)); all_goals (conv => whnf)
    all_goals exact RetVC.res (by simp [oneGapF, hl, vb]) rfl

theorem woGood_spec (s : Tx) (hs : s.length ≤ 1048576) : Spec Tryd.prog 69 [.c (.str s)] [] (isRes [vb (wordF s)] []) := by
  refine Spec.of_wpx tt_ok Tryd.func69 (by kernel_rfl) rfl ?_
  (repeat' ((conv => whnf); first | refine CondVC.t ?_ | refine CondVC.f ?_ | refine CondVC.dec (fun h => ?_) (fun h => ?_) | refine CondVC.ndec (fun h => ?_) (fun h => ?_) | refine CondVC.mk (fun h => ?_) (fun h => ?_) | refine ArVC.i64 (by omega) ?_ | refine SideVC.mk (by first | omega | decide | (simp [slS]; done) | (simp [slS]; omega) | (simp only [byteE_len, mvE_len, strE_len, intE_len, esC_len, List.length_cons, List.length_nil, List.length_append, List.length_replicate, List.length_set, Int.toNat_natCast, and_true] at *; omega)) ?_ | refine LoopN.go ?_ | exact trivial | refine AltVC.mk ?_ ?_ | refine HeldVC.mk rfl ?_ | refine OpVC.more tt_ok ?_ | refine RestVC.ext tt_ok ?_)); all_goals (conv => whnf)
  · exact RetVC.res (by simp only [vb, wordF]; rw [decide_eq_false (by omega)]; rfl) rfl
  · refine LoopVC.mk (G := Nat) (fun k => ⟨[(3, .v (i64 k)), (0, .v (.c (.str s)))], []⟩) (fun k => k ≤ s.length ∧ ∀ j, j < k → okSg (s.getD j 0) = true) (fun k => s.length - k) 0 ⟨by omega, fun j hj => by omega⟩ (Sub.mk [] [] ⟨rfl, rfl, trivial⟩ rfl rfl) ?_
    intro k ⟨hk, hn⟩
    (repeat' ((conv => whnf); first | refine CondVC.t ?_ | refine CondVC.f ?_ | refine CondVC.dec (fun h => ?_) (fun h => ?_) | refine CondVC.ndec (fun h => ?_) (fun h => ?_) | refine CondVC.mk (fun h => ?_) (fun h => ?_) | refine ArVC.i64 (by omega) ?_ | refine SideVC.mk (by first | omega | decide | (simp [slS]; done) | (simp [slS]; omega) | (simp only [byteE_len, mvE_len, strE_len, intE_len, esC_len, List.length_cons, List.length_nil, List.length_append, List.length_replicate, List.length_set, Int.toNat_natCast, and_true] at *; omega)) ?_ | refine LoopN.go ?_ | exact trivial | refine AltVC.mk ?_ ?_ | refine HeldVC.mk rfl ?_ | refine OpVC.more tt_ok ?_ | refine RestVC.ext tt_ok ?_)); all_goals (conv => whnf)
    all_goals simp only [Int.toNat_natCast, u8_84, u8_70, u8_46, Classical.not_not] at *
    all_goals first
      | exact RetVC.res (by simp only [vb, wordF]; rw [all_false_getD (j := k) (by omega) (by simp [-List.getD_eq_getElem?_getD, okSg, *])]; simp) rfl
      | exact ⟨k + 1, ⟨by omega, fsucc hn (by simp [-List.getD_eq_getElem?_getD, okSg, *])⟩, by omega, Sub.mk [] [] ⟨rfl, rfl, trivial⟩ rfl rfl⟩
      | exact RetVC.res (by simp only [vb, wordF]; rw [all_of_getD fun j hj => hn j (by omega), decide_eq_true (by omega)]; rfl) rfl
theorem trim_word (s : Tx) : decide (Lib.trimS s [84, 70] = []) = s.all okSg := by
  rw [Bool.eq_iff_iff, decide_eq_true_eq, trimS_nil, List.all_eq_true]
  constructor
  · intro h b hb
    have := h b hb
    simp only [List.mem_cons, List.not_mem_nil, or_false] at this
    simpa [okSg] using this
  · intro h b hb
    have := h b hb
    simpa [okSg] using this
theorem isWord_spec (s : Tx) (hs : s.length ≤ 1048576) : Spec Tryd.prog 96 [.c (.str s)] [] (isRes [vb (wordF s)] []) := by
  refine Spec.of_wpx tt_ok Tryd.func96 (by kernel_rfl) rfl ?_
  (repeat' ((conv => whnf); first | refine CondVC.t ?_ | refine CondVC.f ?_ | refine CondVC.dec (fun h => ?_) (fun h => ?_) | refine CondVC.ndec (fun h => ?_) (fun h => ?_) | refine CondVC.mk (fun h => ?_) (fun h => ?_) | refine ArVC.i64 (by omega) ?_ | refine SideVC.mk (by first | omega | decide | (simp [slS]; done) | (simp [slS]; omega) | (simp only [byteE_len, mvE_len, strE_len, intE_len, esC_len, List.length_cons, List.length_nil, List.length_append, List.length_replicate, List.length_set, Int.toNat_natCast, and_true] at *; omega)) ?_ | refine LoopN.go ?_ | exact trivial | refine AltVC.mk ?_ ?_ | refine HeldVC.mk rfl ?_ | refine CallVC.pure (trimTF_spec s (by omega)) rfl ?_ | refine OpVC.more tt_ok ?_ | refine RestVC.ext tt_ok ?_)); all_goals (conv => whnf)
  · exact RetVC.res (by simp only [vb, wordF]; rw [← trim_word, decide_eq_true (p := (s.length : Int) ≤ 40) (by assumption), Bool.true_and]) rfl
  · exact RetVC.res (by simp only [vb, wordF]; rw [decide_eq_false (p := (s.length : Int) ≤ 40) (by assumption), Bool.false_and]) rfl

theorem woAsked_spec (w s : Tx) (hw : w.length ≤ 1048576) (hs : s.length ≤ 1048576) : Spec Tryd.prog 43 [.c (.str w), .c (.str s)] [] (isRes [vb (askedF w s)] []) := by
  refine Spec.of_wpx tt_ok Tryd.func43 (by kernel_rfl) rfl ?_
  have h1 := woOne_spec w hw
  have h2 := woGood_spec s hs
  unfold askedF
  cases hl : oneGapF w <;> rw [hl] at h1
  all_goals
    (repeat' ((conv => whnf); first | refine CondVC.t ?_ | refine CondVC.f ?_ | refine CondVC.dec (fun h => ?_) (fun h => ?_) | refine CondVC.ndec (fun h => ?_) (fun h => ?_) | refine CondVC.mk (fun h => ?_) (fun h => ?_) | refine ArVC.i64 (by omega) ?_ | refine SideVC.mk (by first | omega | decide | (simp [slS]; done) | (simp [slS]; omega) | (simp only [byteE_len, mvE_len, strE_len, intE_len, esC_len, List.length_cons, List.length_nil, List.length_append, List.length_replicate, List.length_set, Int.toNat_natCast, and_true] at *; omega)) ?_ | refine LoopN.go ?_ | exact trivial | refine AltVC.mk ?_ ?_ | refine HeldVC.mk rfl ?_ | refine CallVC.pure h1 rfl ?_ | refine CallVC.pure h2 rfl ?_ | refine OpVC.more tt_ok ?_ | refine RestVC.ext tt_ok ?_)); all_goals (conv => whnf)
    all_goals exact RetVC.res rfl rfl

theorem oneGap_line {w : Tx} (h : oneGapF w = true) : lineOf w 10 = true := by simp only [oneGapF, Bool.and_eq_true] at h; exact h.1
theorem word_len {s : Tx} (h : wordF s = true) : s.length ≤ 40 := by simp only [wordF, Bool.and_eq_true, decide_eq_true_eq] at h; omega
theorem word_ok {s : Tx} (h : wordF s = true) : s.all okSg = true := by simp only [wordF, Bool.and_eq_true] at h; exact h.2
theorem asked_and {w s : Tx} (h : askedF w s = true) : lineOf w 10 = true ∧ wordF s = true := by simp only [askedF, Bool.and_eq_true] at h; exact ⟨oneGap_line h.1, h.2⟩

theorem liMovesC {w : Tx} {b : UInt8} (hok : w.all okCh = true) (hb : okSg b = true) : liMovesF w (decide (((b.toNat : Nat) : Int) = 84)) (decide (((b.toNat : Nat) : Int) = 70)) = movesF w [b] := by
  rw [liMoves_eq hok]
  simp only [okSg, Bool.or_eq_true, decide_eq_true_eq] at hb
  rcases hb with h | h <;> subst h <;> rfl

theorem woPlay_spec (w s : Tx) (hok : w.all okCh = true) (hw : w.length ≤ 1000000) (hsk : s.all okSg = true) (hs : s.length ≤ 1000000) : Spec Tryd.prog 44 [.c (.str w), .c (.str s)] []
    (isRes [.c (.sl 1001), .c (.str (playF s w []).2)] [(1001, .sl 47 2 (mvE (playF s w []).1))]) := by
  generalize hQ : playF s w [] = Q
  refine Spec.of_wpx tt_ok Tryd.func44 (by kernel_rfl) rfl ?_
  (repeat' ((conv => whnf); first | refine CondVC.t ?_ | refine CondVC.f ?_ | refine CondVC.dec (fun h => ?_) (fun h => ?_) | refine CondVC.ndec (fun h => ?_) (fun h => ?_) | refine CondVC.mk (fun h => ?_) (fun h => ?_) | refine ArVC.i64 (by omega) ?_ | refine SideVC.mk (by first | omega | decide | (simp [slS]; done) | (simp [slS]; omega) | (simp only [byteE_len, mvE_len, strE_len, intE_len, esC_len, List.length_cons, List.length_nil, List.length_append, List.length_replicate, List.length_set, Int.toNat_natCast, and_true] at *; omega)) ?_ | refine LoopN.go ?_ | exact trivial | refine AltVC.mk ?_ ?_ | refine HeldVC.mk rfl ?_ | refine OpVC.more tt_ok ?_ | refine RestVC.ext tt_ok ?_)); all_goals (conv => whnf)
  refine LoopVC.mk (G := Nat × Tx × List Mv) (fun g => ⟨[(7, .v (i64 g.1)), (6, .v (.c (.sl 1001))), (1, .v (.c (.str s))), (0, .v (.c (.str g.2.1)))], [(1001, .sl 47 2 (mvE g.2.2))]⟩)
    (fun g => g.1 ≤ s.length ∧ g.2.1.length = w.length ∧ g.2.1.all okCh = true ∧ g.2.2.length = g.1 ∧ Q = playF (s.drop g.1) g.2.1 g.2.2) (fun g => s.length - g.1) (0, w, []) ⟨by omega, rfl, hok, rfl, hQ.symm⟩ (Sub.nil 1001 47 2 ⟨rfl, rfl, rfl, rfl, trivial⟩ rfl rfl) ?_
  rintro ⟨k, v, l⟩ ⟨hk, hv, hvo, hl, hP⟩
  simp only at hk hv hvo hl hP
  by_cases hlt : k < s.length
  · have h1 := liMoves_spec v (decide ((((s.getD k 0).toNat : Nat) : Int) = 84)) (decide ((((s.getD k 0).toNat : Nat) : Int) = 70)) hvo (by omega)
    rw [liMovesC hvo (all_getD hsk hlt)] at h1
    cases hm : movesF v [s.getD k 0] with
    | nil =>
      rw [hm] at h1
      have e := hP.trans (playF_stop hlt hm)
      (repeat' ((conv => whnf); first | refine CondVC.t ?_ | refine CondVC.f ?_ | refine CondVC.dec (fun h => ?_) (fun h => ?_) | refine CondVC.ndec (fun h => ?_) (fun h => ?_) | refine CondVC.mk (fun h => ?_) (fun h => ?_) | refine ArVC.i64 (by omega) ?_ | refine SideVC.mk (by first | omega | decide | (simp [slS]; done) | (simp [slS]; omega) | (simp only [byteE_len, mvE_len, strE_len, intE_len, esC_len, List.length_cons, List.length_nil, List.length_append, List.length_replicate, List.length_set, Int.toNat_natCast, and_true] at *; omega)) ?_ | refine LoopN.go ?_ | exact trivial | refine AltVC.mk ?_ ?_ | refine HeldVC.mk rfl ?_ | refine DrawVC.tree (id := 5) tt_ok [1001] tr44_5 (by kernel_rfl) (by kernel_rfl) rfl ?_ | refine CallVC.res [] rfl (Spec.ren [(1001, 2001)] [(2001, 1001)] h1 rfl rfl rfl) rfl ?_ | refine OpVC.more tt_ok ?_ | refine RestVC.ext tt_ok ?_)); all_goals (conv => whnf)
      all_goals first
        | (exfalso; omega)
        | (exfalso; simp_all; done)
        | exact RetVC.res (by rw [e]) (by rw [e]; rfl)
    | cons m ms =>
      rw [hm] at h1
      obtain ⟨m1, m2, m3⟩ := movesF_in (w := v) (kinds := [s.getD k 0]) (m := m) (by rw [hm]; exact List.mem_cons_self)
      have h2 := liMake_spec v m m1 m2 m3 (by omega)
      have e := hP.trans (playF_go hlt hm)
      have el : mvE (l ++ [m]) = mvE l ++ [mvC m] := by rw [mvE_append]; rfl
      (repeat' ((conv => whnf); first | refine CondVC.t ?_ | refine CondVC.f ?_ | refine CondVC.dec (fun h => ?_) (fun h => ?_) | refine CondVC.ndec (fun h => ?_) (fun h => ?_) | refine CondVC.mk (fun h => ?_) (fun h => ?_) | refine ArVC.i64 (by omega) ?_ | refine SideVC.mk (by first | omega | decide | (simp [slS]; done) | (simp [slS]; omega) | (simp only [byteE_len, mvE_len, strE_len, intE_len, esC_len, List.length_cons, List.length_nil, List.length_append, List.length_replicate, List.length_set, Int.toNat_natCast, and_true] at *; omega)) ?_ | refine LoopN.go ?_ | exact trivial | refine AltVC.mk ?_ ?_ | refine HeldVC.mk rfl ?_ | refine DrawVC.tree (id := 5) tt_ok [1001] tr44_5 (by kernel_rfl) (by kernel_rfl) rfl ?_ | refine CallVC.res [] rfl (Spec.ren [(1001, 2001)] [(2001, 1001)] h1 rfl rfl rfl) rfl ?_ | refine LoadVC.mk (mvC m) rfl ?_ | refine CallVC.pure h2 rfl ?_ | refine OpVC.more tt_ok ?_ | refine RestVC.ext tt_ok ?_)); all_goals (conv => whnf)
      all_goals first
        | (exfalso; omega)
        | exact ⟨(k + 1, madeF v m, l ++ [m]), ⟨by omega, by rw [madeF_len]; exact hv, okCh_made hvo (by omega), by simp; omega, e⟩, by simp only; omega, Sub.mk [(1001, 35)] _ ⟨rfl, rfl, rfl, rfl, trivial⟩ (by rw [el]; rfl) rfl⟩
        | (exfalso; simp_all [mvE]; omega)
  · have e := hP.trans (playF_end (by omega))
    (repeat' ((conv => whnf); first | refine CondVC.t ?_ | refine CondVC.f ?_ | refine CondVC.dec (fun h => ?_) (fun h => ?_) | refine CondVC.ndec (fun h => ?_) (fun h => ?_) | refine CondVC.mk (fun h => ?_) (fun h => ?_) | refine ArVC.i64 (by omega) ?_ | refine SideVC.mk (by first | omega | decide | (simp [slS]; done) | (simp [slS]; omega) | (simp only [byteE_len, mvE_len, strE_len, intE_len, esC_len, List.length_cons, List.length_nil, List.length_append, List.length_replicate, List.length_set, Int.toNat_natCast, and_true] at *; omega)) ?_ | refine LoopN.go ?_ | exact trivial | refine AltVC.mk ?_ ?_ | refine HeldVC.mk rfl ?_ | refine OpVC.more tt_ok ?_ | refine RestVC.ext tt_ok ?_)); all_goals (conv => whnf)
    all_goals first
      | (exfalso; omega)
      | exact RetVC.res (by rw [e]) (by rw [e]; rfl)

def tcP (p : List Mv × Tx) (all : Bool) (r : Nat) : V := .agg [.sl r, .str p.2, .bool all]
def playAllF (w s : Tx) : Bool := decide ((playF s w []).1.length = s.length)
def playOfF (w s : Tx) : List Mv × Tx := if askedF w s then playF s w [] else ([], [])
def allOfF (w s : Tx) : Bool := askedF w s && playAllF w s

theorem playOf_spec (w s : Tx) (hw : w.length ≤ 1048576) (hs : s.length ≤ 1048576) : Spec Tryd.prog 72 [.c (.str w), .c (.str s)] []
    (isRes [.agg [.sl 1001, .str (playOfF w s).2, .bool (allOfF w s)], vb (askedF w s)] [(1001, .sl 47 2 (mvE (playOfF w s).1))]) := by
  unfold playOfF allOfF playAllF
  have h1 := hasOneGap_spec w hw
  have h2 := isWord_spec s hs
  refine Spec.of_wpx tt_ok Tryd.func72 (by kernel_rfl) rfl ?_
  by_cases ha : askedF w s = true
  · rw [if_pos ha, ha, Bool.true_and]
    obtain ⟨hl1, hwd⟩ := asked_and ha
    have hg : oneGapF w = true := by simp only [askedF, Bool.and_eq_true] at ha; exact ha.1
    rw [hg] at h1
    rw [hwd] at h2
    have hok := line_ok hl1
    have hsk := word_ok hwd
    have hwl := line_len hl1
    have hsl := word_len hwd
    have hlen := playF_len s w []
    generalize hQ : playF s w [] = Q at *
    (repeat' ((conv => whnf); first | refine CondVC.t ?_ | refine CondVC.f ?_ | refine CondVC.dec (fun h => ?_) (fun h => ?_) | refine CondVC.ndec (fun h => ?_) (fun h => ?_) | refine CondVC.mk (fun h => ?_) (fun h => ?_) | refine ArVC.i64 (by omega) ?_ | refine SideVC.mk (by first | omega | decide | (simp [slS]; done) | (simp [slS]; omega) | (simp only [byteE_len, mvE_len, strE_len, intE_len, esC_len, List.length_cons, List.length_nil, List.length_append, List.length_replicate, List.length_set, Int.toNat_natCast, and_true] at *; omega)) ?_ | refine LoopN.go ?_ | exact trivial | refine AltVC.mk ?_ ?_ | refine HeldVC.mk rfl ?_ | refine CallVC.pure h1 rfl ?_ | refine CallVC.pure h2 rfl ?_ | refine OpVC.more tt_ok ?_ | refine RestVC.ext tt_ok ?_)); all_goals (conv => whnf)
    refine LoopVC.mk (G := Nat × Tx × List Mv) (fun g => ⟨[(23, .v (i64 g.1)), (22, .v (i64 s.length)), (6, .v (.c (.ptr 6 0))), (4, .v (.c (.ptr 4 0))), (1, .v (.c (.str s)))], [(6, .box 76 [.sl 1001, .str g.2.1, .bool false]), (1001, .sl 47 2 (mvE g.2.2)), (4, .box 76 [.val (.slice none 0 0), .str [], .bool false])]⟩)
      (fun g => g.1 ≤ s.length ∧ g.2.1.length = w.length ∧ g.2.1.all okCh = true ∧ g.2.2.length = g.1 ∧ Q = playF (s.drop g.1) g.2.1 g.2.2) (fun g => s.length - g.1) (0, w, []) ⟨by omega, rfl, hok, rfl, hQ.symm⟩ (Sub.mk [(1001, 18)] [] ⟨rfl, rfl, rfl, rfl, rfl, trivial⟩ rfl rfl) ?_
    rintro ⟨k, v, l⟩ ⟨hk, hv, hvo, hl, hP⟩
    simp only at hk hv hvo hl hP
    by_cases hlt : k < s.length
    · have h3 := moves_spec v [s.getD k 0] (by omega)
      have hsl : slS s (k : Int).toNat ((k : Int) + 1).toNat = [s.getD k 0] := by rw [show ((k : Int) + 1).toNat = k + 1 by omega, Int.toNat_natCast]; exact slS_one hlt
      cases hm : movesF v [s.getD k 0] with
      | nil =>
        rw [hm, ← hsl] at h3
        have e := hP.trans (playF_stop hlt hm)
        have ea : decide (Q.1.length = s.length) = false := decide_eq_false (by rw [e]; simp only; omega)
        (repeat' ((conv => whnf); first | refine CondVC.t ?_ | refine CondVC.f ?_ | refine CondVC.dec (fun h => ?_) (fun h => ?_) | refine CondVC.ndec (fun h => ?_) (fun h => ?_) | refine CondVC.mk (fun h => ?_) (fun h => ?_) | refine ArVC.i64 (by omega) ?_ | refine SideVC.mk (by first | omega | decide | (simp [slS]; done) | (simp [slS]; omega) | (simp only [byteE_len, mvE_len, strE_len, intE_len, esC_len, List.length_cons, List.length_nil, List.length_append, List.length_replicate, List.length_set, Int.toNat_natCast, and_true] at *; omega)) ?_ | refine LoopN.go ?_ | exact trivial | refine AltVC.mk ?_ ?_ | refine HeldVC.mk rfl ?_ | refine DrawVC.tree (id := 7) tt_ok [1001, 4, 6] tr72_7 (by kernel_rfl) (by kernel_rfl) rfl ?_ | refine CallVC.res [] rfl (Spec.ren [(1001, 2001)] [(2001, 1001)] h3 rfl rfl rfl) rfl ?_ | refine OpVC.more tt_ok ?_ | refine RestVC.ext tt_ok ?_)); all_goals (conv => whnf)
        all_goals first
          | (exfalso; omega)
          | (exfalso; simp_all; done)
          | exact RetVC.res (by rw [ea, e]; rfl) (by rw [e]; rfl)
      | cons m ms =>
        rw [hm, ← hsl] at h3
        obtain ⟨m1, m2, m3⟩ := movesF_in (w := v) (kinds := [s.getD k 0]) (m := m) (by rw [hm]; exact List.mem_cons_self)
        have h4 := made_spec v m m1 m2 (by omega)
        have e := hP.trans (playF_go hlt hm)
        have el : mvE (l ++ [m]) = mvE l ++ [mvC m] := by rw [mvE_append]; rfl
        (repeat' ((conv => whnf); first | refine CondVC.t ?_ | refine CondVC.f ?_ | refine CondVC.dec (fun h => ?_) (fun h => ?_) | refine CondVC.ndec (fun h => ?_) (fun h => ?_) | refine CondVC.mk (fun h => ?_) (fun h => ?_) | refine ArVC.i64 (by omega) ?_ | refine SideVC.mk (by first | omega | decide | (simp [slS]; done) | (simp [slS]; omega) | (simp only [byteE_len, mvE_len, strE_len, intE_len, esC_len, List.length_cons, List.length_nil, List.length_append, List.length_replicate, List.length_set, Int.toNat_natCast, and_true] at *; omega)) ?_ | refine LoopN.go ?_ | exact trivial | refine AltVC.mk ?_ ?_ | refine HeldVC.mk rfl ?_ | refine DrawVC.tree (id := 7) tt_ok [1001, 4, 6] tr72_7 (by kernel_rfl) (by kernel_rfl) rfl ?_ | refine DrawVC.tree (id := 10) tt_ok [2001, 4] tb72_10 (by kernel_rfl) (by kernel_rfl) rfl ?_ | refine CallVC.res [] rfl (Spec.ren [(1001, 2001)] [(2001, 1001)] h3 rfl rfl rfl) rfl ?_ | refine LoadVC.mk (mvC m) rfl ?_ | refine CallVC.pure h4 rfl ?_ | refine OpVC.more tt_ok ?_ | refine RestVC.ext tt_ok ?_)); all_goals (conv => whnf)
        all_goals first
          | (exfalso; omega)
          | exact ⟨(k + 1, madeF v m, l ++ [m]), ⟨by omega, by rw [madeF_len]; exact hv, okCh_made hvo (by omega), by simp [hl], e⟩, by simp only; omega, Sub.mk [(1001, 44)] _ ⟨rfl, rfl, rfl, rfl, rfl, trivial⟩ (by rw [el]; rfl) rfl⟩
          | (exfalso; simp_all [mvE]; omega)
    · have e := hP.trans (playF_end (by omega))
      have ea : decide (Q.1.length = s.length) = true := decide_eq_true (by rw [e]; simp only; omega)
      (repeat' ((conv => whnf); first | refine CondVC.t ?_ | refine CondVC.f ?_ | refine CondVC.dec (fun h => ?_) (fun h => ?_) | refine CondVC.ndec (fun h => ?_) (fun h => ?_) | refine CondVC.mk (fun h => ?_) (fun h => ?_) | refine ArVC.i64 (by omega) ?_ | refine SideVC.mk (by first | omega | decide | (simp [slS]; done) | (simp [slS]; omega) | (simp only [byteE_len, mvE_len, strE_len, intE_len, esC_len, List.length_cons, List.length_nil, List.length_append, List.length_replicate, List.length_set, Int.toNat_natCast, and_true] at *; omega)) ?_ | refine LoopN.go ?_ | exact trivial | refine AltVC.mk ?_ ?_ | refine HeldVC.mk rfl ?_ | refine OpVC.more tt_ok ?_ | refine RestVC.ext tt_ok ?_)); all_goals (conv => whnf)
      all_goals first
        | (exfalso; omega)
        | exact RetVC.res (by rw [ea, e]; rfl) (by rw [e]; rfl)
  · rw [if_neg ha]
    have hf : askedF w s = false := by simpa using ha
    rw [hf, Bool.false_and]
    unfold askedF at hf
    cases hl : oneGapF w <;> rw [hl] at h1 hf
    all_goals try (rw [Bool.true_and] at hf; rw [hf] at h2)
    all_goals
      (repeat' ((conv => whnf); first | refine CondVC.t ?_ | refine CondVC.f ?_ | refine CondVC.dec (fun h => ?_) (fun h => ?_) | refine CondVC.ndec (fun h => ?_) (fun h => ?_) | refine CondVC.mk (fun h => ?_) (fun h => ?_) | refine ArVC.i64 (by omega) ?_ | refine SideVC.mk (by first | omega | decide | (simp [slS]; done) | (simp [slS]; omega) | (simp only [byteE_len, mvE_len, strE_len, intE_len, esC_len, List.length_cons, List.length_nil, List.length_append, List.length_replicate, List.length_set, Int.toNat_natCast, and_true] at *; omega)) ?_ | refine LoopN.go ?_ | exact trivial | refine AltVC.mk ?_ ?_ | refine HeldVC.mk rfl ?_ | refine CallVC.pure h1 rfl ?_ | refine CallVC.pure h2 rfl ?_ | refine OpVC.more tt_ok ?_ | refine RestVC.ext tt_ok ?_)); all_goals (conv => whnf)
      all_goals exact RetVC.nil 1001 47 2 [.agg [.sl 1001, .str [], .bool false], vb false] [(4, .box 76 [.val (.slice none 0 0), .str [], .bool false])] rfl rfl rfl (RetVC.res rfl rfl)

/-! ### The asked ones -/
theorem playOf_len (w s : Tx) (h : askedF w s = true) : (playF s w []).1.length ≤ 40 ∧ (playF s w []).1.length ≤ s.length := by
  have h1 := playF_len s w []
  have h2 := word_len (asked_and h).2
  simp at h1
  omega

def playWordF (w s : Tx) : Tx := if allOfF w s then (playF s w []).2 else []

def signF (w s : Tx) : Int := if askedF w s && !playAllF w s then (((playF s w []).1.length : Nat) : Int) else 0

def movesWordF (w s : Tx) : List Mv := if allOfF w s then (playF s w []).1 else []
theorem implMovesOfWord_spec (w s : Tx) (hw : w.length ≤ 1048576) (hs : s.length ≤ 1048576) : Spec Tryd.prog 46 [.c (.str w), .c (.str s)] [] (isRes [.c (.sl 1001), vb (allOfF w s)] [(1001, .sl 47 2 (mvE (movesWordF w s)))]) := by
  have h1 := playOf_spec w s hw hs
  unfold movesWordF
  refine Spec.of_wpx tt_ok Tryd.func46 (by kernel_rfl) rfl ?_
  cases ha : allOfF w s with
  | true =>
    have e : playOfF w s = playF s w [] := by simp only [allOfF, Bool.and_eq_true] at ha; simp [playOfF, ha.1]
    rw [ha, e] at h1
    generalize playF s w [] = Q at *
    (repeat' ((conv => whnf); first | refine CondVC.t ?_ | refine CondVC.f ?_ | refine CondVC.dec (fun h => ?_) (fun h => ?_) | refine CondVC.ndec (fun h => ?_) (fun h => ?_) | refine CondVC.mk (fun h => ?_) (fun h => ?_) | refine ArVC.i64 (by omega) ?_ | refine SideVC.mk (by first | omega | decide | (simp [slS]; done) | (simp [slS]; omega) | (simp only [byteE_len, mvE_len, strE_len, intE_len, esC_len, List.length_cons, List.length_nil, List.length_append, List.length_replicate, List.length_set, Int.toNat_natCast, and_true] at *; omega)) ?_ | refine LoopN.go ?_ | exact trivial | refine AltVC.mk ?_ ?_ | refine HeldVC.mk rfl ?_ | refine CallVC.res [] rfl h1 rfl ?_ | refine OpVC.more tt_ok ?_ | refine RestVC.ext tt_ok ?_)); all_goals (conv => whnf)
    all_goals exact RetVC.res rfl rfl
  | false =>
    rw [ha] at h1
    generalize playOfF w s = Q at *
    (repeat' ((conv => whnf); first | refine CondVC.t ?_ | refine CondVC.f ?_ | refine CondVC.dec (fun h => ?_) (fun h => ?_) | refine CondVC.ndec (fun h => ?_) (fun h => ?_) | refine CondVC.mk (fun h => ?_) (fun h => ?_) | refine ArVC.i64 (by omega) ?_ | refine SideVC.mk (by first | omega | decide | (simp [slS]; done) | (simp [slS]; omega) | (simp only [byteE_len, mvE_len, strE_len, intE_len, esC_len, List.length_cons, List.length_nil, List.length_append, List.length_replicate, List.length_set, Int.toNat_natCast, and_true] at *; omega)) ?_ | refine LoopN.go ?_ | exact trivial | refine AltVC.mk ?_ ?_ | refine HeldVC.mk rfl ?_ | refine CallVC.res [] rfl (Spec.ren [(1001, 2001)] [(2001, 1001)] h1 rfl rfl rfl) rfl ?_ | refine OpVC.more tt_ok ?_ | refine RestVC.ext tt_ok ?_)); all_goals (conv => whnf)
    all_goals exact RetVC.nil 1001 47 2 [.c (.sl 1001), vb false] [(6, .box 76 [.sl 2001, .str Q.2, .bool false]), (2001, .sl 47 2 (mvE Q.1))] rfl rfl rfl (RetVC.res rfl rfl)
theorem movesWordF_len (w s : Tx) : (movesWordF w s).length ≤ 40 := by
  unfold movesWordF
  by_cases ha : allOfF w s = true
  · rw [if_pos ha]
    simp only [allOfF, Bool.and_eq_true] at ha
    exact (playOf_len w s ha.1).1
  · rw [if_neg ha]; simp
end Go.Proofs.YtjpabjmcooiflaaDoor.X
