/- Words of moves: the program's and the reference's. No condition beyond each statement's. -/
import Derived.Test.YtaidpalamhmghaaDoorMade
namespace Go.Proofs.YtaidpalamhmghaaDoor.X
open Go.Proofs
set_option maxRecDepth 100000
set_option linter.unusedVariables false
set_option linter.unusedSimpArgs false

def playF : Tx → Tx → List Mv → List Mv × Tx
  | [], w, l => (l, w)
  | c :: s, w, l => match movesF w [c] with
    | [] => (l, w)
    | m :: _ => playF s (madeF w m) (l ++ [m])
theorem playF_len (s w : Tx) (l : List Mv) : (playF s w l).1.length ≤ l.length + s.length := by
  induction s generalizing w l with
  | nil => simp [playF]
  | cons c s ih =>
    unfold playF
    split
    · simp
    · refine Nat.le_trans (ih _ _) ?_
      simp; omega
theorem drop_at {s : Tx} {k : Nat} (h : k < s.length) : s.drop k = s.getD k 0 :: s.drop (k + 1) := by
  rw [List.drop_eq_getElem_cons h, List.getD_eq_getElem?_getD, List.getElem?_eq_getElem h]; rfl
theorem playF_stop {s w : Tx} {l : List Mv} {k : Nat} (h : k < s.length) (hm : movesF w [s.getD k 0] = []) : playF (s.drop k) w l = (l, w) := by
  rw [drop_at h, playF, hm]
theorem playF_go {s w : Tx} {l ms : List Mv} {m : Mv} {k : Nat} (h : k < s.length) (hm : movesF w [s.getD k 0] = m :: ms) : playF (s.drop k) w l = playF (s.drop (k + 1)) (madeF w m) (l ++ [m]) := by
  rw [drop_at h, playF, hm]
theorem playF_end {s w : Tx} {l : List Mv} {k : Nat} (h : s.length ≤ k) : playF (s.drop k) w l = (l, w) := by
  rw [List.drop_eq_nil_of_le h, playF]

def okSg (b : UInt8) : Bool := decide (b = 84) || decide (b = 70)
def wordF (s : Tx) : Bool := decide ((s.length : Int) ≤ 40) && s.all okSg
def oneGapF (w : Tx) : Bool := lineOf w 10 && decide (((w.count 46 : Nat) : Int) = 1)
def askedF (w s : Tx) : Bool := oneGapF w && wordF s

theorem liCount_spec (w : Tx) (b : UInt8) (hw : w.length ≤ 1000000) : Spec Tryd.prog 158 [.c (.str w), .c (.int .u8 (b.toNat : Nat))] [] (isRes [i64 ((w.count b : Nat) : Int)] []) := by
  refine Spec.of_wpx tt_ok Tryd.func158 (by kernel_rfl) rfl ?_
  (repeat' ((conv => whnf); first | refine CondVC.t ?_ | refine CondVC.f ?_ | refine CondVC.dec (fun h => ?_) (fun h => ?_) | refine CondVC.ndec (fun h => ?_) (fun h => ?_) | refine CondVC.mk (fun h => ?_) (fun h => ?_) | refine ArVC.i64 (by first | omega | (simp only; omega)) ?_ | refine SideVC.mk (by first | omega | decide | (simp only; omega) | (simp [slS]; done) | (simp [slS]; omega) | (simp only [byteE_len, mvE_len, strE_len, intE_len, esC_len, List.length_cons, List.length_nil, List.length_append, List.length_replicate, List.length_set, Int.toNat_natCast, and_true] at *; omega)) ?_ | refine LoopN.go ?_ | exact trivial | refine AltVC.mk ?_ ?_ | refine HeldVC.mk rfl ?_ | refine OpVC.more tt_ok ?_ | refine RestVC.ext tt_ok ?_)); all_goals (conv => whnf)
  refine LoopVC.mk (G := Nat) (fun k => ⟨[(6, .v (i64 k)), (5, .v (i64 (((w.take k).count b : Nat) : Int))), (1, .v (.c (.int .u8 (b.toNat : Nat)))), (0, .v (.c (.str w)))], []⟩)
    (fun k => k ≤ w.length) (fun k => w.length - k) 0 (by omega) (Sub.mk [] [] ⟨rfl, rfl, rfl, rfl, trivial⟩ rfl rfl) ?_
  intro k hk
  have hc : (w.take k).count b ≤ k := Nat.le_trans List.count_le_length (by simp; omega)
  by_cases hlt : k < w.length
  · have hs : (w.take (k + 1)).count b = (w.take k).count b + if w.getD k 0 = b then 1 else 0 := by
      rw [List.take_succ_eq_append_getElem hlt, List.count_append, List.getD_eq_getElem?_getD, List.getElem?_eq_getElem hlt]
      simp [List.count_cons]
    (repeat' ((conv => whnf); first | refine CondVC.t ?_ | refine CondVC.f ?_ | refine CondVC.dec (fun h => ?_) (fun h => ?_) | refine CondVC.ndec (fun h => ?_) (fun h => ?_) | refine CondVC.mk (fun h => ?_) (fun h => ?_) | refine ArVC.i64 (by first | omega | (simp only; omega)) ?_ | refine SideVC.mk (by first | omega | decide | (simp only; omega) | (simp [slS]; done) | (simp [slS]; omega) | (simp only [byteE_len, mvE_len, strE_len, intE_len, esC_len, List.length_cons, List.length_nil, List.length_append, List.length_replicate, List.length_set, Int.toNat_natCast, and_true] at *; omega)) ?_ | refine LoopN.go ?_ | exact trivial | refine AltVC.mk ?_ ?_ | refine HeldVC.mk rfl ?_ | refine OpVC.more tt_ok ?_ | refine RestVC.ext tt_ok ?_)); all_goals (conv => whnf)
    all_goals simp only [Int.toNat_natCast, u8_inj] at *
    all_goals first
      | (exfalso; omega)
      | (rw [if_pos (by assumption)] at hs
         exact ⟨k + 1, by omega, by omega, Sub.mk [] _ ⟨rfl, by rw [hs]; exact congrArg (fun z => some (E.v (i64 z))) (show (((w.take k).count b : Nat) : Int) + 1 = (((w.take k).count b + 1 : Nat) : Int) by omega), rfl, rfl, trivial⟩ rfl rfl⟩)
      | (rw [if_neg (by assumption)] at hs
         exact ⟨k + 1, by omega, by omega, Sub.mk [] _ ⟨rfl, by rw [hs]; rfl, rfl, rfl, trivial⟩ rfl rfl⟩)
  · (repeat' ((conv => whnf); first | refine CondVC.t ?_ | refine CondVC.f ?_ | refine CondVC.dec (fun h => ?_) (fun h => ?_) | refine CondVC.ndec (fun h => ?_) (fun h => ?_) | refine CondVC.mk (fun h => ?_) (fun h => ?_) | refine ArVC.i64 (by first | omega | (simp only; omega)) ?_ | refine SideVC.mk (by first | omega | decide | (simp only; omega) | (simp [slS]; done) | (simp [slS]; omega) | (simp only [byteE_len, mvE_len, strE_len, intE_len, esC_len, List.length_cons, List.length_nil, List.length_append, List.length_replicate, List.length_set, Int.toNat_natCast, and_true] at *; omega)) ?_ | refine LoopN.go ?_ | exact trivial | refine AltVC.mk ?_ ?_ | refine HeldVC.mk rfl ?_ | refine OpVC.more tt_ok ?_ | refine RestVC.ext tt_ok ?_)); all_goals (conv => whnf)
    all_goals first
      | (exfalso; omega)
      | exact RetVC.res (by rw [List.take_of_length_le (by omega)]; rfl) rfl

theorem lineFew (w : Tx) : (lineOf w 12 && decide ((w.length : Int) ≤ 10)) = lineOf w 10 := by
  unfold lineOf
  cases w.all okCh
  · simp
  · simp only [Bool.and_true]
    rw [Bool.eq_iff_iff]; simp only [Bool.and_eq_true, decide_eq_true_eq]; omega
theorem reFew_spec (w : Tx) (hw : w.length ≤ 1048576) : Spec Tryd.prog 65 [.c (.str w)] [] (isRes [vb (lineOf w 10)] []) := by
  refine Spec.of_wpx tt_ok Tryd.func65 (by kernel_rfl) rfl ?_
  have h1 := liGood_spec w (by omega)
  have hr := lineFew w
  cases hl : lineOf w 12 with
  | true =>
    rw [hl] at h1 hr
    (repeat' ((conv => whnf); first | refine CondVC.t ?_ | refine CondVC.f ?_ | refine CondVC.dec (fun h => ?_) (fun h => ?_) | refine CondVC.ndec (fun h => ?_) (fun h => ?_) | refine CondVC.mk (fun h => ?_) (fun h => ?_) | refine ArVC.i64 (by first | omega | (simp only; omega)) ?_ | refine SideVC.mk (by first | omega | decide | (simp only; omega) | (simp [slS]; done) | (simp [slS]; omega) | (simp only [byteE_len, mvE_len, strE_len, intE_len, esC_len, List.length_cons, List.length_nil, List.length_append, List.length_replicate, List.length_set, Int.toNat_natCast, and_true] at *; omega)) ?_ | refine LoopN.go ?_ | exact trivial | refine AltVC.mk ?_ ?_ | refine HeldVC.mk rfl ?_ | refine CallVC.pure h1 rfl ?_ | refine OpVC.more tt_ok ?_ | refine RestVC.ext tt_ok ?_)); all_goals (conv => whnf)
    all_goals exact RetVC.res (by rw [← hr]; simp [vb]) rfl
  | false =>
    rw [hl] at h1 hr
    (repeat' ((conv => whnf); first | refine CondVC.t ?_ | refine CondVC.f ?_ | refine CondVC.dec (fun h => ?_) (fun h => ?_) | refine CondVC.ndec (fun h => ?_) (fun h => ?_) | refine CondVC.mk (fun h => ?_) (fun h => ?_) | refine ArVC.i64 (by first | omega | (simp only; omega)) ?_ | refine SideVC.mk (by first | omega | decide | (simp only; omega) | (simp [slS]; done) | (simp [slS]; omega) | (simp only [byteE_len, mvE_len, strE_len, intE_len, esC_len, List.length_cons, List.length_nil, List.length_append, List.length_replicate, List.length_set, Int.toNat_natCast, and_true] at *; omega)) ?_ | refine LoopN.go ?_ | exact trivial | refine AltVC.mk ?_ ?_ | refine HeldVC.mk rfl ?_ | refine CallVC.pure h1 rfl ?_ | refine OpVC.more tt_ok ?_ | refine RestVC.ext tt_ok ?_)); all_goals (conv => whnf)
    all_goals exact RetVC.res (by rw [← hr]; simp [vb]) rfl
theorem isReachLine_spec (w : Tx) (hw : w.length ≤ 1048576) : Spec Tryd.prog 63 [.c (.str w)] [] (isRes [vb (lineOf w 10)] []) := by
  refine Spec.of_wpx tt_ok Tryd.func63 (by kernel_rfl) rfl ?_
  (repeat' ((conv => whnf); first | refine CondVC.t ?_ | refine CondVC.f ?_ | refine CondVC.dec (fun h => ?_) (fun h => ?_) | refine CondVC.ndec (fun h => ?_) (fun h => ?_) | refine CondVC.mk (fun h => ?_) (fun h => ?_) | refine ArVC.i64 (by first | omega | (simp only; omega)) ?_ | refine SideVC.mk (by first | omega | decide | (simp only; omega) | (simp [slS]; done) | (simp [slS]; omega) | (simp only [byteE_len, mvE_len, strE_len, intE_len, esC_len, List.length_cons, List.length_nil, List.length_append, List.length_replicate, List.length_set, Int.toNat_natCast, and_true] at *; omega)) ?_ | refine LoopN.go ?_ | exact trivial | refine AltVC.mk ?_ ?_ | refine HeldVC.mk rfl ?_ | refine CallVC.pure (isLineOf_spec w 10 (by omega)) rfl ?_ | refine OpVC.more tt_ok ?_ | refine RestVC.ext tt_ok ?_)); all_goals (conv => whnf)
  all_goals exact RetVC.res rfl rfl

theorem trim_word (s : Tx) : decide (Lib.trimS s [84, 70] = []) = s.all okSg := by
  -- (where there is 132)
  rw [Bool.eq_iff_iff, decide_eq_true_eq, trimS_nil, List.all_eq_true]
  constructor
  · intro h b hb
    have := h b hb
    simp only [List.mem_cons, List.not_mem_nil, or_false] at this
    simpa [okSg] using this
  · intro h b hb
    have := h b hb
    simpa [okSg] using this


theorem oneGap_line {w : Tx} (h : oneGapF w = true) : lineOf w 10 = true := by simp only [oneGapF, Bool.and_eq_true] at h; exact h.1
theorem word_len {s : Tx} (h : wordF s = true) : s.length ≤ 40 := by simp only [wordF, Bool.and_eq_true, decide_eq_true_eq] at h; omega
theorem word_ok {s : Tx} (h : wordF s = true) : s.all okSg = true := by simp only [wordF, Bool.and_eq_true] at h; exact h.2
theorem asked_and {w s : Tx} (h : askedF w s = true) : lineOf w 10 = true ∧ wordF s = true := by simp only [askedF, Bool.and_eq_true] at h; exact ⟨oneGap_line h.1, h.2⟩

theorem liMovesC {w : Tx} {b : UInt8} (hok : w.all okCh = true) (hb : okSg b = true) : liMovesF w (decide (((b.toNat : Nat) : Int) = 84)) (decide (((b.toNat : Nat) : Int) = 70)) = movesF w [b] := by
  rw [liMoves_eq hok]
  simp only [okSg, Bool.or_eq_true, decide_eq_true_eq] at hb
  rcases hb with h | h <;> subst h <;> rfl


def tcP (p : List Mv × Tx) (all : Bool) (r : Nat) : V := .agg [.sl r, .str p.2, .bool all]
def playAllF (w s : Tx) : Bool := decide ((playF s w []).1.length = s.length)
def playOfF (w s : Tx) : List Mv × Tx := if askedF w s then playF s w [] else ([], [])
def allOfF (w s : Tx) : Bool := askedF w s && playAllF w s


/-! ### The asked ones -/
theorem playOf_len (w s : Tx) (h : askedF w s = true) : (playF s w []).1.length ≤ 40 ∧ (playF s w []).1.length ≤ s.length := by
  have h1 := playF_len s w []
  have h2 := word_len (asked_and h).2
  simp at h1
  omega

def playWordF (w s : Tx) : Tx := if allOfF w s then (playF s w []).2 else []

def signF (w s : Tx) : Int := if askedF w s && !playAllF w s then (((playF s w []).1.length : Nat) : Int) else 0

def movesWordF (w s : Tx) : List Mv := if allOfF w s then (playF s w []).1 else []
theorem movesWordF_len (w s : Tx) : (movesWordF w s).length ≤ 40 := by
  unfold movesWordF
  by_cases ha : allOfF w s = true
  · rw [if_pos ha]
    simp only [allOfF, Bool.and_eq_true] at ha
    exact (playOf_len w s ha.1).1
  · rw [if_neg ha]; simp
end Go.Proofs.YtaidpalamhmghaaDoor.X
