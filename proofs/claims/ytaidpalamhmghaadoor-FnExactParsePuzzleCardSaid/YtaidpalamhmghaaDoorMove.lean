/- Moves of lines: what the laws ask of them. No condition beyond each statement's. -/
import Derived.Test.YtaidpalamhmghaaDoorLine
namespace Go.Proofs.YtaidpalamhmghaaDoor.X
open Go.Proofs
set_option maxRecDepth 100000
set_option linter.unusedVariables false
set_option linter.unusedSimpArgs false



/-- Cells numbered on from k. -/
def marks (k : Int) (n : Nat) : List Mv := (List.range n).map fun (i : Nat) => (k + 2 * (i : Int), k + 2 * (i : Int) + 1)
theorem marks_len (k : Int) (n : Nat) : (marks k n).length = n := by simp [marks]
theorem marks_get (k : Int) (n : Nat) {i : Nat} (h : i < (marks k n).length) : (marks k n)[i] = (k + 2 * (i : Int), k + 2 * (i : Int) + 1) := by simp [marks]
def marked (l : List Mv) (k : Int) (i : Nat) : List Mv := marks k i ++ l.drop i
theorem marked_len {l : List Mv} {k : Int} {i : Nat} (h : i ≤ l.length) : (marked l k i).length = l.length := by simp [marked, marks_len]; omega
theorem marked_at {l : List Mv} {k : Int} {i : Nat} (h : i < l.length) : (marked l k i)[i]? = some l[i] := by
  unfold marked
  rw [List.getElem?_append_right (by rw [marks_len]; omega), marks_len, Nat.sub_self, List.getElem?_drop, Nat.add_zero, List.getElem?_eq_getElem h]
theorem marked_set {l : List Mv} {k : Int} {i : Nat} (h : i < l.length) : (marked l k i).set i (k + 2 * (i : Int), k + 2 * (i : Int) + 1) = marked l k (i + 1) := by
  unfold marked
  rw [List.set_append_right _ _ (by rw [marks_len]; omega), marks_len, Nat.sub_self, List.drop_eq_getElem_cons h, List.set_cons_zero]
  have : marks k (i + 1) = marks k i ++ [(k + 2 * (i : Int), k + 2 * (i : Int) + 1)] := by simp [marks, List.range_succ]
  rw [this, List.append_assoc]
  rfl



/-! ### The moves of a line, as both tell them -/
def askF (w kinds : Tx) : List Mv := if lineOf w 12 then movesF w kinds else []
theorem movesF_len (w kinds : Tx) : (movesF w kinds).length ≤ w.length := movesTo_len w kinds w.length
theorem askF_len (w kinds : Tx) : (askF w kinds).length ≤ w.length := by
  unfold askF
  split
  · exact movesF_len w kinds
  · simp
theorem line_ok {w : Tx} {most : Int} (h : lineOf w most = true) : w.all okCh = true := by simp only [lineOf, Bool.and_eq_true] at h; exact h.2
theorem line_len {w : Tx} {most : Int} (h : lineOf w most = true) : 1 ≤ w.length ∧ (w.length : Int) ≤ most := by
  simp only [lineOf, Bool.and_eq_true, decide_eq_true_eq] at h
  omega

theorem movesIn_spec (w kinds : Tx) (hw : w.length ≤ 1048576) : Spec Tryd.prog 67 [.c (.str w), .c (.str kinds)] [] (isRes [.c (.sl 1001), vb (lineOf w 12)] [(1001, .sl 33 2 (mvE (askF w kinds)))]) := by
  refine Spec.of_wpx tt_ok Tryd.func67 (by kernel_rfl) rfl ?_
  cases hl : lineOf w 12 with
  | true =>
    have h1 := isLine_spec w (by omega)
    have h2 := moves_spec w kinds (by have := line_len hl; omega)
    rw [hl] at h1
    have e : askF w kinds = movesF w kinds := by simp [askF, hl]
    rw [e]
    (repeat' ((conv => whnf); first | refine CondVC.t ?_ | refine CondVC.f ?_ | refine CondVC.dec (fun h => ?_) (fun h => ?_) | refine CondVC.ndec (fun h => ?_) (fun h => ?_) | refine CondVC.mk (fun h => ?_) (fun h => ?_) | refine ArVC.i64 (by first | omega | (simp only; omega)) ?_ | refine SideVC.mk (by first | omega | decide | (simp only; omega) | (simp [slS]; done) | (simp [slS]; omega) | (simp only [byteE_len, mvE_len, strE_len, intE_len, esC_len, List.length_cons, List.length_nil, List.length_append, List.length_replicate, List.length_set, Int.toNat_natCast, and_true] at *; omega)) ?_ | refine LoopN.go ?_ | exact trivial | refine AltVC.mk ?_ ?_ | refine HeldVC.mk rfl ?_ | refine CallVC.pure h1 rfl ?_ | refine CallVC.res [] rfl h2 rfl ?_ | refine OpVC.more tt_ok ?_ | refine RestVC.ext tt_ok ?_)); all_goals (conv => whnf)
    exact RetVC.res rfl rfl
  | false =>
    have h1 := isLine_spec w (by omega)
    rw [hl] at h1
    have e : askF w kinds = [] := by simp [askF, hl]
    rw [e]
    (repeat' ((conv => whnf); first | refine CondVC.t ?_ | refine CondVC.f ?_ | refine CondVC.dec (fun h => ?_) (fun h => ?_) | refine CondVC.ndec (fun h => ?_) (fun h => ?_) | refine CondVC.mk (fun h => ?_) (fun h => ?_) | refine ArVC.i64 (by first | omega | (simp only; omega)) ?_ | refine SideVC.mk (by first | omega | decide | (simp only; omega) | (simp [slS]; done) | (simp [slS]; omega) | (simp only [byteE_len, mvE_len, strE_len, intE_len, esC_len, List.length_cons, List.length_nil, List.length_append, List.length_replicate, List.length_set, Int.toNat_natCast, and_true] at *; omega)) ?_ | refine LoopN.go ?_ | exact trivial | refine AltVC.mk ?_ ?_ | refine HeldVC.mk rfl ?_ | refine CallVC.pure h1 rfl ?_ | refine OpVC.more tt_ok ?_ | refine RestVC.ext tt_ok ?_)); all_goals (conv => whnf)
    exact RetVC.nil 1001 33 2 [.c (.sl 1001), vb false] [] rfl rfl rfl (RetVC.res rfl rfl)

theorem implMovesOf_spec (w : Tx) (hw : w.length ≤ 1048576) : Spec Tryd.prog 16 [.c (.str w)] [] (isRes [.c (.sl 1001), vb (lineOf w 12)] [(1001, .sl 33 2 (mvE (askF w [84, 70])))]) := by
  refine Spec.of_wpx tt_ok Tryd.func16 (by kernel_rfl) rfl ?_
  (repeat' ((conv => whnf); first | refine CondVC.t ?_ | refine CondVC.f ?_ | refine CondVC.dec (fun h => ?_) (fun h => ?_) | refine CondVC.ndec (fun h => ?_) (fun h => ?_) | refine CondVC.mk (fun h => ?_) (fun h => ?_) | refine ArVC.i64 (by first | omega | (simp only; omega)) ?_ | refine SideVC.mk (by first | omega | decide | (simp only; omega) | (simp [slS]; done) | (simp [slS]; omega) | (simp only [byteE_len, mvE_len, strE_len, intE_len, esC_len, List.length_cons, List.length_nil, List.length_append, List.length_replicate, List.length_set, Int.toNat_natCast, and_true] at *; omega)) ?_ | refine LoopN.go ?_ | exact trivial | refine AltVC.mk ?_ ?_ | refine HeldVC.mk rfl ?_ | refine CallVC.res [] rfl (movesIn_spec w [84, 70] hw) rfl ?_ | refine OpVC.more tt_ok ?_ | refine RestVC.ext tt_ok ?_)); all_goals (conv => whnf)
  all_goals exact RetVC.res rfl rfl
theorem implToadMoves_spec (w : Tx) (hw : w.length ≤ 1048576) : Spec Tryd.prog 34 [.c (.str w)] [] (isRes [.c (.sl 1001), vb (lineOf w 12)] [(1001, .sl 33 2 (mvE (askF w [84])))]) := by
  refine Spec.of_wpx tt_ok Tryd.func34 (by kernel_rfl) rfl ?_
  (repeat' ((conv => whnf); first | refine CondVC.t ?_ | refine CondVC.f ?_ | refine CondVC.dec (fun h => ?_) (fun h => ?_) | refine CondVC.ndec (fun h => ?_) (fun h => ?_) | refine CondVC.mk (fun h => ?_) (fun h => ?_) | refine ArVC.i64 (by first | omega | (simp only; omega)) ?_ | refine SideVC.mk (by first | omega | decide | (simp only; omega) | (simp [slS]; done) | (simp [slS]; omega) | (simp only [byteE_len, mvE_len, strE_len, intE_len, esC_len, List.length_cons, List.length_nil, List.length_append, List.length_replicate, List.length_set, Int.toNat_natCast, and_true] at *; omega)) ?_ | refine LoopN.go ?_ | exact trivial | refine AltVC.mk ?_ ?_ | refine HeldVC.mk rfl ?_ | refine CallVC.res [] rfl (movesIn_spec w [84] hw) rfl ?_ | refine OpVC.more tt_ok ?_ | refine RestVC.ext tt_ok ?_)); all_goals (conv => whnf)
  all_goals exact RetVC.res rfl rfl
theorem implFrogMoves_spec (w : Tx) (hw : w.length ≤ 1048576) : Spec Tryd.prog 36 [.c (.str w)] [] (isRes [.c (.sl 1001), vb (lineOf w 12)] [(1001, .sl 33 2 (mvE (askF w [70])))]) := by
  refine Spec.of_wpx tt_ok Tryd.func36 (by kernel_rfl) rfl ?_
  (repeat' ((conv => whnf); first | refine CondVC.t ?_ | refine CondVC.f ?_ | refine CondVC.dec (fun h => ?_) (fun h => ?_) | refine CondVC.ndec (fun h => ?_) (fun h => ?_) | refine CondVC.mk (fun h => ?_) (fun h => ?_) | refine ArVC.i64 (by first | omega | (simp only; omega)) ?_ | refine SideVC.mk (by first | omega | decide | (simp only; omega) | (simp [slS]; done) | (simp [slS]; omega) | (simp only [byteE_len, mvE_len, strE_len, intE_len, esC_len, List.length_cons, List.length_nil, List.length_append, List.length_replicate, List.length_set, Int.toNat_natCast, and_true] at *; omega)) ?_ | refine LoopN.go ?_ | exact trivial | refine AltVC.mk ?_ ?_ | refine HeldVC.mk rfl ?_ | refine CallVC.res [] rfl (movesIn_spec w [70] hw) rfl ?_ | refine OpVC.more tt_ok ?_ | refine RestVC.ext tt_ok ?_)); all_goals (conv => whnf)
  all_goals exact RetVC.res rfl rfl

theorem askLi {w : Tx} {toads frogs : Bool} (h : lineOf w 12 = true) : liMovesF w toads frogs = askF w (kindsF toads frogs) := by
  rw [liMoves_eq (line_ok h)]; simp [askF, h]

theorem specMovesOf_spec (w : Tx) (hw : w.length ≤ 1048576) : Spec Tryd.prog 33 [.c (.str w)] [] (isRes [.c (.sl 1001), vb (lineOf w 12)] [(1001, .sl 33 2 (mvE (askF w [84, 70])))]) := by
  refine Spec.of_wpx tt_ok Tryd.func33 (by kernel_rfl) rfl ?_
  cases hl : lineOf w 12 with
  | true =>
    have h1 := liGood_spec w (by omega)
    have h2 := liMoves_spec w true true (line_ok hl) (by have := line_len hl; omega)
    rw [hl] at h1
    rw [askLi hl] at h2
    (repeat' ((conv => whnf); first | refine CondVC.t ?_ | refine CondVC.f ?_ | refine CondVC.dec (fun h => ?_) (fun h => ?_) | refine CondVC.ndec (fun h => ?_) (fun h => ?_) | refine CondVC.mk (fun h => ?_) (fun h => ?_) | refine ArVC.i64 (by first | omega | (simp only; omega)) ?_ | refine SideVC.mk (by first | omega | decide | (simp only; omega) | (simp [slS]; done) | (simp [slS]; omega) | (simp only [byteE_len, mvE_len, strE_len, intE_len, esC_len, List.length_cons, List.length_nil, List.length_append, List.length_replicate, List.length_set, Int.toNat_natCast, and_true] at *; omega)) ?_ | refine LoopN.go ?_ | exact trivial | refine AltVC.mk ?_ ?_ | refine HeldVC.mk rfl ?_ | refine CallVC.pure h1 rfl ?_ | refine CallVC.res [] rfl h2 rfl ?_ | refine OpVC.more tt_ok ?_ | refine RestVC.ext tt_ok ?_)); all_goals (conv => whnf)
    exact RetVC.res rfl rfl
  | false =>
    have h1 := liGood_spec w (by omega)
    rw [hl] at h1
    have e : askF w [84, 70] = [] := by simp [askF, hl]
    rw [e]
    (repeat' ((conv => whnf); first | refine CondVC.t ?_ | refine CondVC.f ?_ | refine CondVC.dec (fun h => ?_) (fun h => ?_) | refine CondVC.ndec (fun h => ?_) (fun h => ?_) | refine CondVC.mk (fun h => ?_) (fun h => ?_) | refine ArVC.i64 (by first | omega | (simp only; omega)) ?_ | refine SideVC.mk (by first | omega | decide | (simp only; omega) | (simp [slS]; done) | (simp [slS]; omega) | (simp only [byteE_len, mvE_len, strE_len, intE_len, esC_len, List.length_cons, List.length_nil, List.length_append, List.length_replicate, List.length_set, Int.toNat_natCast, and_true] at *; omega)) ?_ | refine LoopN.go ?_ | exact trivial | refine AltVC.mk ?_ ?_ | refine HeldVC.mk rfl ?_ | refine CallVC.pure h1 rfl ?_ | refine OpVC.more tt_ok ?_ | refine RestVC.ext tt_ok ?_)); all_goals (conv => whnf)
    exact RetVC.nil 1001 33 2 [.c (.sl 1001), vb false] [] rfl rfl rfl (RetVC.res rfl rfl)
theorem specToadMoves_spec (w : Tx) (hw : w.length ≤ 1048576) : Spec Tryd.prog 35 [.c (.str w)] [] (isRes [.c (.sl 1001), vb (lineOf w 12)] [(1001, .sl 33 2 (mvE (askF w [84])))]) := by
  refine Spec.of_wpx tt_ok Tryd.func35 (by kernel_rfl) rfl ?_
  cases hl : lineOf w 12 with
  | true =>
    have h1 := liGood_spec w (by omega)
    have h2 := liMoves_spec w true false (line_ok hl) (by have := line_len hl; omega)
    rw [hl] at h1
    rw [askLi hl] at h2
    (repeat' ((conv => whnf); first | refine CondVC.t ?_ | refine CondVC.f ?_ | refine CondVC.dec (fun h => ?_) (fun h => ?_) | refine CondVC.ndec (fun h => ?_) (fun h => ?_) | refine CondVC.mk (fun h => ?_) (fun h => ?_) | refine ArVC.i64 (by first | omega | (simp only; omega)) ?_ | refine SideVC.mk (by first | omega | decide | (simp only; omega) | (simp [slS]; done) | (simp [slS]; omega) | (simp only [byteE_len, mvE_len, strE_len, intE_len, esC_len, List.length_cons, List.length_nil, List.length_append, List.length_replicate, List.length_set, Int.toNat_natCast, and_true] at *; omega)) ?_ | refine LoopN.go ?_ | exact trivial | refine AltVC.mk ?_ ?_ | refine HeldVC.mk rfl ?_ | refine CallVC.pure h1 rfl ?_ | refine CallVC.res [] rfl h2 rfl ?_ | refine OpVC.more tt_ok ?_ | refine RestVC.ext tt_ok ?_)); all_goals (conv => whnf)
    exact RetVC.res rfl rfl
  | false =>
    have h1 := liGood_spec w (by omega)
    rw [hl] at h1
    have e : askF w [84] = [] := by simp [askF, hl]
    rw [e]
    (repeat' ((conv => whnf); first | refine CondVC.t ?_ | refine CondVC.f ?_ | refine CondVC.dec (fun h => ?_) (fun h => ?_) | refine CondVC.ndec (fun h => ?_) (fun h => ?_) | refine CondVC.mk (fun h => ?_) (fun h => ?_) | refine ArVC.i64 (by first | omega | (simp only; omega)) ?_ | refine SideVC.mk (by first | omega | decide | (simp only; omega) | (simp [slS]; done) | (simp [slS]; omega) | (simp only [byteE_len, mvE_len, strE_len, intE_len, esC_len, List.length_cons, List.length_nil, List.length_append, List.length_replicate, List.length_set, Int.toNat_natCast, and_true] at *; omega)) ?_ | refine LoopN.go ?_ | exact trivial | refine AltVC.mk ?_ ?_ | refine HeldVC.mk rfl ?_ | refine CallVC.pure h1 rfl ?_ | refine OpVC.more tt_ok ?_ | refine RestVC.ext tt_ok ?_)); all_goals (conv => whnf)
    exact RetVC.nil 1001 33 2 [.c (.sl 1001), vb false] [] rfl rfl rfl (RetVC.res rfl rfl)
theorem specFrogMoves_spec (w : Tx) (hw : w.length ≤ 1048576) : Spec Tryd.prog 37 [.c (.str w)] [] (isRes [.c (.sl 1001), vb (lineOf w 12)] [(1001, .sl 33 2 (mvE (askF w [70])))]) := by
  refine Spec.of_wpx tt_ok Tryd.func37 (by kernel_rfl) rfl ?_
  cases hl : lineOf w 12 with
  | true =>
    have h1 := liGood_spec w (by omega)
    have h2 := liMoves_spec w false true (line_ok hl) (by have := line_len hl; omega)
    rw [hl] at h1
    rw [askLi hl] at h2
    (repeat' ((conv => whnf); first | refine CondVC.t ?_ | refine CondVC.f ?_ | refine CondVC.dec (fun h => ?_) (fun h => ?_) | refine CondVC.ndec (fun h => ?_) (fun h => ?_) | refine CondVC.mk (fun h => ?_) (fun h => ?_) | refine ArVC.i64 (by first | omega | (simp only; omega)) ?_ | refine SideVC.mk (by first | omega | decide | (simp only; omega) | (simp [slS]; done) | (simp [slS]; omega) | (simp only [byteE_len, mvE_len, strE_len, intE_len, esC_len, List.length_cons, List.length_nil, List.length_append, List.length_replicate, List.length_set, Int.toNat_natCast, and_true] at *; omega)) ?_ | refine LoopN.go ?_ | exact trivial | refine AltVC.mk ?_ ?_ | refine HeldVC.mk rfl ?_ | refine CallVC.pure h1 rfl ?_ | refine CallVC.res [] rfl h2 rfl ?_ | refine OpVC.more tt_ok ?_ | refine RestVC.ext tt_ok ?_)); all_goals (conv => whnf)
    exact RetVC.res rfl rfl
  | false =>
    have h1 := liGood_spec w (by omega)
    rw [hl] at h1
    have e : askF w [70] = [] := by simp [askF, hl]
    rw [e]
    (repeat' ((conv => whnf); first | refine CondVC.t ?_ | refine CondVC.f ?_ | refine CondVC.dec (fun h => ?_) (fun h => ?_) | refine CondVC.ndec (fun h => ?_) (fun h => ?_) | refine CondVC.mk (fun h => ?_) (fun h => ?_) | refine ArVC.i64 (by first | omega | (simp only; omega)) ?_ | refine SideVC.mk (by first | omega | decide | (simp only; omega) | (simp [slS]; done) | (simp [slS]; omega) | (simp only [byteE_len, mvE_len, strE_len, intE_len, esC_len, List.length_cons, List.length_nil, List.length_append, List.length_replicate, List.length_set, Int.toNat_natCast, and_true] at *; omega)) ?_ | refine LoopN.go ?_ | exact trivial | refine AltVC.mk ?_ ?_ | refine HeldVC.mk rfl ?_ | refine CallVC.pure h1 rfl ?_ | refine OpVC.more tt_ok ?_ | refine RestVC.ext tt_ok ?_)); all_goals (conv => whnf)
    exact RetVC.nil 1001 33 2 [.c (.sl 1001), vb false] [] rfl rfl rfl (RetVC.res rfl rfl)

theorem implIsBlocked1_spec (w : Tx) (hw : w.length ≤ 1000000) : Spec Tryd.prog 92 [.c (.str w)] [] (isRes [vb (decide ((movesF w [84, 70]).length = 0))] []) := by
  refine Spec.of_wpx tt_ok Tryd.func92 (by kernel_rfl) rfl ?_
  (repeat' ((conv => whnf); first | refine CondVC.t ?_ | refine CondVC.f ?_ | refine CondVC.dec (fun h => ?_) (fun h => ?_) | refine CondVC.ndec (fun h => ?_) (fun h => ?_) | refine CondVC.mk (fun h => ?_) (fun h => ?_) | refine ArVC.i64 (by first | omega | (simp only; omega)) ?_ | refine SideVC.mk (by first | omega | decide | (simp only; omega) | (simp [slS]; done) | (simp [slS]; omega) | (simp only [byteE_len, mvE_len, strE_len, intE_len, esC_len, List.length_cons, List.length_nil, List.length_append, List.length_replicate, List.length_set, Int.toNat_natCast, and_true] at *; omega)) ?_ | refine LoopN.go ?_ | exact trivial | refine AltVC.mk ?_ ?_ | refine HeldVC.mk rfl ?_ | refine CallVC.res [] rfl (moves_spec w [84, 70] hw) rfl ?_ | refine OpVC.more tt_ok ?_ | refine RestVC.ext tt_ok ?_)); all_goals (conv => whnf)
  all_goals exact RetVC.res (by simp [vb, mvE_len]) rfl
def blockF (w : Tx) : Bool := lineOf w 12 && decide ((movesF w [84, 70]).length = 0)
theorem implIsBlocked_spec (w : Tx) (hw : w.length ≤ 1048576) : Spec Tryd.prog 42 [.c (.str w)] [] (isRes [vb (blockF w), vb (lineOf w 12)] []) := by
  refine Spec.of_wpx tt_ok Tryd.func42 (by kernel_rfl) rfl ?_
  have h1 := isLine_spec w (by omega)
  cases hl : lineOf w 12 with
  | true =>
    rw [hl] at h1
    (repeat' ((conv => whnf); first | refine CondVC.t ?_ | refine CondVC.f ?_ | refine CondVC.dec (fun h => ?_) (fun h => ?_) | refine CondVC.ndec (fun h => ?_) (fun h => ?_) | refine CondVC.mk (fun h => ?_) (fun h => ?_) | refine ArVC.i64 (by first | omega | (simp only; omega)) ?_ | refine SideVC.mk (by first | omega | decide | (simp only; omega) | (simp [slS]; done) | (simp [slS]; omega) | (simp only [byteE_len, mvE_len, strE_len, intE_len, esC_len, List.length_cons, List.length_nil, List.length_append, List.length_replicate, List.length_set, Int.toNat_natCast, and_true] at *; omega)) ?_ | refine LoopN.go ?_ | exact trivial | refine AltVC.mk ?_ ?_ | refine HeldVC.mk rfl ?_ | refine CallVC.pure h1 rfl ?_ | refine CallVC.pure (implIsBlocked1_spec w (by have := line_len hl; omega)) rfl ?_ | refine OpVC.more tt_ok ?_ | refine RestVC.ext tt_ok ?_)); all_goals (conv => whnf)
    all_goals exact RetVC.res (by simp [blockF, hl, vb]) rfl
  | false =>
    rw [hl] at h1
    (repeat' ((conv => whnf); first | refine CondVC.t ?_ | refine CondVC.f ?_ | refine CondVC.dec (fun h => ?_) (fun h => ?_) | refine CondVC.ndec (fun h => ?_) (fun h => ?_) | refine CondVC.mk (fun h => ?_) (fun h => ?_) | refine ArVC.i64 (by first | omega | (simp only; omega)) ?_ | refine SideVC.mk (by first | omega | decide | (simp only; omega) | (simp [slS]; done) | (simp [slS]; omega) | (simp only [byteE_len, mvE_len, strE_len, intE_len, esC_len, List.length_cons, List.length_nil, List.length_append, List.length_replicate, List.length_set, Int.toNat_natCast, and_true] at *; omega)) ?_ | refine LoopN.go ?_ | exact trivial | refine AltVC.mk ?_ ?_ | refine HeldVC.mk rfl ?_ | refine CallVC.pure h1 rfl ?_ | refine OpVC.more tt_ok ?_ | refine RestVC.ext tt_ok ?_)); all_goals (conv => whnf)
    all_goals exact RetVC.res (by simp [blockF, hl, vb]) rfl
theorem specIsBlocked_spec (w : Tx) (hw : w.length ≤ 1048576) : Spec Tryd.prog 43 [.c (.str w)] [] (isRes [vb (blockF w), vb (lineOf w 12)] []) := by
  refine Spec.of_wpx tt_ok Tryd.func43 (by kernel_rfl) rfl ?_
  have h1 := liGood_spec w (by omega)
  cases hl : lineOf w 12 with
  | true =>
    rw [hl] at h1
    have h2 := liMoves_spec w true true (line_ok hl) (by have := line_len hl; omega)
    rw [liMoves_eq (line_ok hl)] at h2
    (repeat' ((conv => whnf); first | refine CondVC.t ?_ | refine CondVC.f ?_ | refine CondVC.dec (fun h => ?_) (fun h => ?_) | refine CondVC.ndec (fun h => ?_) (fun h => ?_) | refine CondVC.mk (fun h => ?_) (fun h => ?_) | refine ArVC.i64 (by first | omega | (simp only; omega)) ?_ | refine SideVC.mk (by first | omega | decide | (simp only; omega) | (simp [slS]; done) | (simp [slS]; omega) | (simp only [byteE_len, mvE_len, strE_len, intE_len, esC_len, List.length_cons, List.length_nil, List.length_append, List.length_replicate, List.length_set, Int.toNat_natCast, and_true] at *; omega)) ?_ | refine LoopN.go ?_ | exact trivial | refine AltVC.mk ?_ ?_ | refine HeldVC.mk rfl ?_ | refine CallVC.pure h1 rfl ?_ | refine CallVC.res [] rfl h2 rfl ?_ | refine OpVC.more tt_ok ?_ | refine RestVC.ext tt_ok ?_)); all_goals (conv => whnf)
    all_goals exact RetVC.res (by simp [blockF, hl, vb, mvE_len, kindsF]) rfl
  | false =>
    rw [hl] at h1
    (repeat' ((conv => whnf); first | refine CondVC.t ?_ | refine CondVC.f ?_ | refine CondVC.dec (fun h => ?_) (fun h => ?_) | refine CondVC.ndec (fun h => ?_) (fun h => ?_) | refine CondVC.mk (fun h => ?_) (fun h => ?_) | refine ArVC.i64 (by first | omega | (simp only; omega)) ?_ | refine SideVC.mk (by first | omega | decide | (simp only; omega) | (simp [slS]; done) | (simp [slS]; omega) | (simp only [byteE_len, mvE_len, strE_len, intE_len, esC_len, List.length_cons, List.length_nil, List.length_append, List.length_replicate, List.length_set, Int.toNat_natCast, and_true] at *; omega)) ?_ | refine LoopN.go ?_ | exact trivial | refine AltVC.mk ?_ ?_ | refine HeldVC.mk rfl ?_ | refine CallVC.pure h1 rfl ?_ | refine OpVC.more tt_ok ?_ | refine RestVC.ext tt_ok ?_)); all_goals (conv => whnf)
    all_goals exact RetVC.res (by simp [blockF, hl, vb]) rfl






end Go.Proofs.YtaidpalamhmghaaDoor.X
