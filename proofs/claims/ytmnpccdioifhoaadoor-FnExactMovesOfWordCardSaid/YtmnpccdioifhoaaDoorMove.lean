/- Moves of lines: what the laws ask of them. No condition beyond each statement's. -/
import Derived.Test.YtmnpccdioifhoaaDoorLine
namespace Go.Proofs.YtmnpccdioifhoaaDoor.X
open Go.Proofs
set_option maxRecDepth 100000
set_option linter.unusedVariables false
set_option linter.unusedSimpArgs false

theorem eqMove_spec (m n : Mv) : Spec Tryd.prog 51 [.agg (mvC m), .agg (mvC n)] [] (isRes [vb (decide (m = n))] []) := by
  obtain ⟨a, b⟩ := m
  obtain ⟨c, d⟩ := n
  refine Spec.of_wpx tt_ok Tryd.func51 (by kernel_rfl) rfl ?_
  (repeat' ((conv => whnf); first | refine CondVC.t ?_ | refine CondVC.f ?_ | refine CondVC.dec (fun h => ?_) (fun h => ?_) | refine CondVC.ndec (fun h => ?_) (fun h => ?_) | refine CondVC.mk (fun h => ?_) (fun h => ?_) | refine ArVC.i64 (by omega) ?_ | refine SideVC.mk (by first | omega | decide | (simp [slS]; done) | (simp [slS]; omega) | (simp only [byteE_len, mvE_len, strE_len, intE_len, esC_len, List.length_cons, List.length_nil, List.length_append, List.length_replicate, List.length_set, Int.toNat_natCast, and_true] at *; omega)) ?_ | refine LoopN.go ?_ | exact trivial | refine AltVC.mk ?_ ?_ | refine HeldVC.mk rfl ?_ | refine OpVC.more tt_ok ?_ | refine RestVC.ext tt_ok ?_)); all_goals (conv => whnf)
  all_goals exact RetVC.res (by simp_all [vb]) rfl

theorem eqMoveS_spec (l l' : List Mv) (hl : l.length ≤ 2000000) : Spec Tryd.prog 24 [.c (.sl 1000), .c (.sl 1001)] [(1000, .sl 46 2 (mvE l)), (1001, .sl 46 2 (mvE l'))]
    (isRes [vb (decide (l = l'))] [(1000, .sl 46 2 (mvE l)), (1001, .sl 46 2 (mvE l'))]) := by
  have hn := mvE_len l
  have hn' := mvE_len l'
  refine Spec.of_wpx tt_ok Tryd.func24 (by kernel_rfl) rfl ?_
  (repeat' ((conv => whnf); first | refine CondVC.t ?_ | refine CondVC.f ?_ | refine CondVC.dec (fun h => ?_) (fun h => ?_) | refine CondVC.ndec (fun h => ?_) (fun h => ?_) | refine CondVC.mk (fun h => ?_) (fun h => ?_) | refine ArVC.i64 (by omega) ?_ | refine SideVC.mk (by first | omega | decide | (simp [slS]; done) | (simp [slS]; omega) | (simp only [byteE_len, mvE_len, strE_len, intE_len, esC_len, List.length_cons, List.length_nil, List.length_append, List.length_replicate, List.length_set, Int.toNat_natCast, and_true] at *; omega)) ?_ | refine LoopN.go ?_ | exact trivial | refine AltVC.mk ?_ ?_ | refine HeldVC.mk rfl ?_ | refine OpVC.more tt_ok ?_ | refine RestVC.ext tt_ok ?_)); all_goals (conv => whnf)
  · exact RetVC.res (by simp only [vb]; rw [decide_eq_false]; intro e; apply h; rw [e]) rfl
  have hll : l.length = l'.length := by simp only [hn, hn', Classical.not_not] at h; omega
  refine LoopVC.mk (G := Nat) (fun k => ⟨[(5, .v (i64 k)), (1, .v (.c (.sl 1001))), (0, .v (.c (.sl 1000)))], [(1000, .sl 46 2 (mvE l)), (1001, .sl 46 2 (mvE l'))]⟩)
    (fun k => k ≤ l.length ∧ l.take k = l'.take k) (fun k => l.length - k) 0 ⟨by omega, by simp⟩ (Sub.mk [] [] ⟨rfl, rfl, rfl, trivial⟩ rfl rfl) ?_
  intro k ⟨hk, hkt⟩
  (repeat' ((conv => whnf); first | refine CondVC.t ?_ | refine CondVC.f ?_ | refine CondVC.dec (fun h => ?_) (fun h => ?_) | refine CondVC.ndec (fun h => ?_) (fun h => ?_) | refine CondVC.mk (fun h => ?_) (fun h => ?_) | refine ArVC.i64 (by omega) ?_ | refine SideVC.mk (by first | omega | decide | (simp [slS]; done) | (simp [slS]; omega) | (simp only [byteE_len, mvE_len, strE_len, intE_len, esC_len, List.length_cons, List.length_nil, List.length_append, List.length_replicate, List.length_set, Int.toNat_natCast, and_true] at *; omega)) ?_ | refine LoopN.go ?_ | exact trivial | refine AltVC.mk ?_ ?_ | refine HeldVC.mk rfl ?_ | refine DrawVC.quiet tt_ok (by kernel_rfl) (by kernel_rfl) ?_ | refine QCallVC.pure (eqMove_spec _ _) rfl ?_ | refine LoadVC.mk _ (mvE_get (l := l) (k := k) (by simp only [hn] at *; omega)) ?_ | refine LoadVC.mk _ (mvE_get (l := l') (k := k) (by simp only [hn] at *; omega)) ?_ | refine OpVC.more tt_ok ?_ | refine RestVC.ext tt_ok ?_)); all_goals (conv => whnf)
  · rename_i hk' h'
    have hk2 : k < l.length := by simp only [hn] at hk'; omega
    refine RetVC.res ?_ rfl
    simp only [vb]
    rw [decide_eq_false]
    intro e
    subst e
    exact h rfl
  · rename_i hk'
    have hk2 : k < l.length := by simp only [hn] at hk'; omega
    exact ⟨k + 1, ⟨hk2, by rw [List.take_succ_eq_append_getElem hk2, List.take_succ_eq_append_getElem (by omega), hkt, h]⟩, by omega, Sub.mk [] [] ⟨rfl, rfl, rfl, trivial⟩ rfl rfl⟩
  · have hk2 : k = l.length := by simp only [hn] at h; omega
    refine RetVC.res ?_ rfl
    simp only [vb]
    rw [decide_eq_true]
    rw [hk2, List.take_length, hll, List.take_length] at hkt
    exact hkt

/-- Cells numbered on from k. -/
def marks (k : Int) (n : Nat) : List Mv := (List.range n).map fun (i : Nat) => (k + 2 * (i : Int), k + 2 * (i : Int) + 1)
theorem marks_len (k : Int) (n : Nat) : (marks k n).length = n := by simp [marks]
theorem marks_get (k : Int) (n : Nat) {i : Nat} (h : i < (marks k n).length) : (marks k n)[i] = (k + 2 * (i : Int), k + 2 * (i : Int) + 1) := by simp [marks]
def marked (l : List Mv) (k : Int) (i : Nat) : List Mv := marks k i ++ l.drop i
theorem marked_len {l : List Mv} {k : Int} {i : Nat} (h : i ≤ l.length) : (marked l k i).length = l.length := by simp [marked, marks_len]; omega
theorem marked_at {l : List Mv} {k : Int} {i : Nat} (h : i < l.length) : (marked l k i)[i]? = some l[i] := by
  unfold marked
  rw [List.getElem?_append_right (by rw [marks_len]; omega), marks_len, Nat.sub_self, List.getElem?_drop, Nat.add_zero, List.getElem?_eq_getElem h]
theorem marked_set {l : List Mv} {k : Int} {i : Nat} (h : i < l.length) : (marked l k i).set i (k + 2 * (i : Int), k + 2 * (i : Int) + 1) = marked l k (i + 1) := by
  unfold marked
  rw [List.set_append_right _ _ (by rw [marks_len]; omega), marks_len, Nat.sub_self, List.drop_eq_getElem_cons h, List.set_cons_zero]
  have : marks k (i + 1) = marks k i ++ [(k + 2 * (i : Int), k + 2 * (i : Int) + 1)] := by simp [marks, List.range_succ]
  rw [this, List.append_assoc]
  rfl

theorem markMoveS_spec (l : List Mv) (k : Int) (hl : l.length ≤ 2000000) (hk0 : 0 ≤ k ∧ k ≤ 1000000000) : Spec Tryd.prog 25 [.c (.sl 1000), i64 k] [(1000, .sl 46 2 (mvE l))]
    (isRes [i64 (k + 2 * l.length)] [(1000, .sl 46 2 (mvE (marks k l.length)))]) := by
  refine Spec.of_wpx tt_ok Tryd.func25 (by kernel_rfl) rfl ?_
  (repeat' ((conv => whnf); first | refine CondVC.t ?_ | refine CondVC.f ?_ | refine CondVC.dec (fun h => ?_) (fun h => ?_) | refine CondVC.ndec (fun h => ?_) (fun h => ?_) | refine CondVC.mk (fun h => ?_) (fun h => ?_) | refine ArVC.i64 (by omega) ?_ | refine SideVC.mk (by first | omega | decide | (simp [slS]; done) | (simp [slS]; omega) | (simp only [byteE_len, mvE_len, strE_len, intE_len, esC_len, List.length_cons, List.length_nil, List.length_append, List.length_replicate, List.length_set, Int.toNat_natCast, and_true] at *; omega)) ?_ | refine LoopN.go ?_ | exact trivial | refine AltVC.mk ?_ ?_ | refine HeldVC.mk rfl ?_ | refine OpVC.more tt_ok ?_ | refine RestVC.ext tt_ok ?_)); all_goals (conv => whnf)
  refine LoopVC.mk (G := Nat) (fun i => ⟨[(5, .v (i64 i)), (1, .v (i64 (k + 2 * i))), (0, .v (.c (.sl 1000)))], [(1000, .sl 46 2 (mvE (marked l k i)))]⟩)
    (fun i => i ≤ l.length) (fun i => l.length - i) 0 (by omega) (Sub.mk [] [] ⟨rfl, congrArg (fun z => some (E.v (i64 z))) (show k = k + 2 * ((0 : Nat) : Int) by omega), rfl, trivial⟩ (by rw [show marked l k 0 = l from by simp [marked, marks]]; rfl) rfl) ?_
  intro i hi
  have hml := marked_len (l := l) (k := k) hi
  have hme := mvE_len (marked l k i)
  by_cases hil : i < l.length
  · have hg1 : (mvE (marked l k i))[i]? = some (mvC l[i]) := by unfold mvE; rw [List.getElem?_map, marked_at hil]; rfl
    have hg2 : ((mvE (marked l k i)).set (Int.toNat (i : Int)) (setAt (mvC l[i]) 0 [C.int .i64 (k + 2 * i)]))[i]? = some [C.int .i64 (k + 2 * i), C.int .i64 l[i].2] := by
      rw [Int.toNat_natCast, List.getElem?_set_self (by omega)]; rfl
    (repeat' ((conv => whnf); first | refine CondVC.t ?_ | refine CondVC.f ?_ | refine CondVC.dec (fun h => ?_) (fun h => ?_) | refine CondVC.ndec (fun h => ?_) (fun h => ?_) | refine CondVC.mk (fun h => ?_) (fun h => ?_) | refine ArVC.i64 (by omega) ?_ | refine SideVC.mk (by first | omega | decide | (simp [slS]; done) | (simp [slS]; omega) | (simp only [byteE_len, mvE_len, strE_len, intE_len, esC_len, List.length_cons, List.length_nil, List.length_append, List.length_replicate, List.length_set, Int.toNat_natCast, and_true] at *; omega)) ?_ | refine LoopN.go ?_ | exact trivial | refine AltVC.mk ?_ ?_ | refine HeldVC.mk rfl ?_ | refine LoadVC.mk _ hg1 ?_ | refine LoadVC.mk _ hg2 ?_ | refine OpVC.more tt_ok ?_ | refine RestVC.ext tt_ok ?_)); all_goals (conv => whnf)
    · have hfin : (((mvE (marked l k i)).set (Int.toNat (i : Int)) (setAt (mvC l[i]) 0 [C.int .i64 (k + 2 * i)])).set (Int.toNat (i : Int)) (setAt [C.int .i64 (k + 2 * i), C.int .i64 l[i].2] (0 + 1) [C.int .i64 (k + 2 * i + 1)])) = mvE (marked l k (i + 1)) := by
        rw [Int.toNat_natCast, List.set_set]
        unfold mvE
        rw [← marked_set hil, List.map_set]
        rfl
      exact ⟨i + 1, by omega, by omega, Sub.mk [] _ ⟨rfl, congrArg (fun z => some (E.v (i64 z))) (show k + 2 * (i : Int) + 1 + 1 = k + 2 * ((i + 1 : Nat) : Int) by omega), rfl, trivial⟩ (by rw [← hfin]; rfl) rfl⟩
    · omega
  · have hi' : i = l.length := by omega
    (repeat' ((conv => whnf); first | refine CondVC.t ?_ | refine CondVC.f ?_ | refine CondVC.dec (fun h => ?_) (fun h => ?_) | refine CondVC.ndec (fun h => ?_) (fun h => ?_) | refine CondVC.mk (fun h => ?_) (fun h => ?_) | refine ArVC.i64 (by omega) ?_ | refine SideVC.mk (by first | omega | decide | (simp [slS]; done) | (simp [slS]; omega) | (simp only [byteE_len, mvE_len, strE_len, intE_len, esC_len, List.length_cons, List.length_nil, List.length_append, List.length_replicate, List.length_set, Int.toNat_natCast, and_true] at *; omega)) ?_ | refine LoopN.go ?_ | exact trivial | refine AltVC.mk ?_ ?_ | refine HeldVC.mk rfl ?_ | refine OpVC.more tt_ok ?_ | refine RestVC.ext tt_ok ?_)); all_goals (conv => whnf)
    · omega
    · exact RetVC.res (by rw [hi']; rfl) (by rw [show marks k l.length = marked l k i from by simp [marked, hi']]; rfl)

theorem heldMoveS_spec (n : Nat) (k : Int) (hl : n ≤ 2000000) (hk0 : 0 ≤ k ∧ k ≤ 1000000000) : Spec Tryd.prog 26 [.c (.sl 1000), i64 k] [(1000, .sl 46 2 (mvE (marks k n)))]
    (isRes [i64 (k + 2 * n)] [(1000, .sl 46 2 (mvE (marks k n)))]) := by
  have hme := mvE_len (marks k n)
  rw [marks_len] at hme
  refine Spec.of_wpx tt_ok Tryd.func26 (by kernel_rfl) rfl ?_
  (repeat' ((conv => whnf); first | refine CondVC.t ?_ | refine CondVC.f ?_ | refine CondVC.dec (fun h => ?_) (fun h => ?_) | refine CondVC.ndec (fun h => ?_) (fun h => ?_) | refine CondVC.mk (fun h => ?_) (fun h => ?_) | refine ArVC.i64 (by omega) ?_ | refine SideVC.mk (by first | omega | decide | (simp [slS]; done) | (simp [slS]; omega) | (simp only [byteE_len, mvE_len, strE_len, intE_len, esC_len, List.length_cons, List.length_nil, List.length_append, List.length_replicate, List.length_set, Int.toNat_natCast, and_true] at *; omega)) ?_ | refine LoopN.go ?_ | exact trivial | refine AltVC.mk ?_ ?_ | refine HeldVC.mk rfl ?_ | refine OpVC.more tt_ok ?_ | refine RestVC.ext tt_ok ?_)); all_goals (conv => whnf)
  refine LoopVC.mk (G := Nat) (fun i => ⟨[(5, .v (i64 i)), (1, .v (i64 (k + 2 * i))), (0, .v (.c (.sl 1000)))], [(1000, .sl 46 2 (mvE (marks k n)))]⟩)
    (fun i => i ≤ n) (fun i => n - i) 0 (by omega) (Sub.mk [] [] ⟨rfl, congrArg (fun z => some (E.v (i64 z))) (show k = k + 2 * ((0 : Nat) : Int) by omega), rfl, trivial⟩ rfl rfl) ?_
  intro i hi
  by_cases hil : i < n
  · have hg1 : (mvE (marks k n))[i]? = some [C.int .i64 (k + 2 * i), C.int .i64 (k + 2 * i + 1)] := by
      have h1 : i < (marks k n).length := by rw [marks_len]; exact hil
      rw [mvE_get h1, marks_get k n h1]; rfl
    (repeat' ((conv => whnf); first | refine CondVC.t ?_ | refine CondVC.f ?_ | refine CondVC.dec (fun h => ?_) (fun h => ?_) | refine CondVC.ndec (fun h => ?_) (fun h => ?_) | refine CondVC.mk (fun h => ?_) (fun h => ?_) | refine ArVC.i64 (by omega) ?_ | refine SideVC.mk (by first | omega | decide | (simp [slS]; done) | (simp [slS]; omega) | (simp only [byteE_len, mvE_len, strE_len, intE_len, esC_len, List.length_cons, List.length_nil, List.length_append, List.length_replicate, List.length_set, Int.toNat_natCast, and_true] at *; omega)) ?_ | refine LoopN.go ?_ | exact trivial | refine AltVC.mk ?_ ?_ | refine HeldVC.mk rfl ?_ | refine LoadVC.mk _ hg1 ?_ | refine OpVC.more tt_ok ?_ | refine RestVC.ext tt_ok ?_)); all_goals (conv => whnf)
    all_goals first
      | exact ⟨i + 1, by omega, by omega, Sub.mk [] _ ⟨rfl, congrArg (fun z => some (E.v (i64 z))) (show k + 2 * (i : Int) + 1 + 1 = k + 2 * ((i + 1 : Nat) : Int) by omega), rfl, trivial⟩ rfl rfl⟩
      | (exfalso; omega)
  · have hi' : i = n := by omega
    (repeat' ((conv => whnf); first | refine CondVC.t ?_ | refine CondVC.f ?_ | refine CondVC.dec (fun h => ?_) (fun h => ?_) | refine CondVC.ndec (fun h => ?_) (fun h => ?_) | refine CondVC.mk (fun h => ?_) (fun h => ?_) | refine ArVC.i64 (by omega) ?_ | refine SideVC.mk (by first | omega | decide | (simp [slS]; done) | (simp [slS]; omega) | (simp only [byteE_len, mvE_len, strE_len, intE_len, esC_len, List.length_cons, List.length_nil, List.length_append, List.length_replicate, List.length_set, Int.toNat_natCast, and_true] at *; omega)) ?_ | refine LoopN.go ?_ | exact trivial | refine AltVC.mk ?_ ?_ | refine HeldVC.mk rfl ?_ | refine OpVC.more tt_ok ?_ | refine RestVC.ext tt_ok ?_)); all_goals (conv => whnf)
    · omega
    · exact RetVC.res (by rw [hi']; rfl) rfl

/-! ### The moves of a line, as both tell them -/
def askF (w kinds : Tx) : List Mv := if lineOf w 12 then movesF w kinds else []
theorem movesF_len (w kinds : Tx) : (movesF w kinds).length ≤ w.length := movesTo_len w kinds w.length
theorem askF_len (w kinds : Tx) : (askF w kinds).length ≤ w.length := by
  unfold askF
  split
  · exact movesF_len w kinds
  · simp
theorem line_ok {w : Tx} {most : Int} (h : lineOf w most = true) : w.all okCh = true := by simp only [lineOf, Bool.and_eq_true] at h; exact h.2
theorem line_len {w : Tx} {most : Int} (h : lineOf w most = true) : 1 ≤ w.length ∧ (w.length : Int) ≤ most := by
  simp only [lineOf, Bool.and_eq_true, decide_eq_true_eq] at h
  omega

theorem movesIn_spec (w kinds : Tx) (hw : w.length ≤ 1048576) : Spec Tryd.prog 50 [.c (.str w), .c (.str kinds)] [] (isRes [.c (.sl 1001), vb (lineOf w 12)] [(1001, .sl 46 2 (mvE (askF w kinds)))]) := by
  refine Spec.of_wpx tt_ok Tryd.func50 (by kernel_rfl) rfl ?_
  cases hl : lineOf w 12 with
  | true =>
    have h1 := isLine_spec w (by omega)
    have h2 := moves_spec w kinds (by have := line_len hl; omega)
    rw [hl] at h1
    have e : askF w kinds = movesF w kinds := by simp [askF, hl]
    rw [e]
    (repeat' ((conv => whnf); first | refine CondVC.t ?_ | refine CondVC.f ?_ | refine CondVC.dec (fun h => ?_) (fun h => ?_) | refine CondVC.ndec (fun h => ?_) (fun h => ?_) | refine CondVC.mk (fun h => ?_) (fun h => ?_) | refine ArVC.i64 (by omega) ?_ | refine SideVC.mk (by first | omega | decide | (simp [slS]; done) | (simp [slS]; omega) | (simp only [byteE_len, mvE_len, strE_len, intE_len, esC_len, List.length_cons, List.length_nil, List.length_append, List.length_replicate, List.length_set, Int.toNat_natCast, and_true] at *; omega)) ?_ | refine LoopN.go ?_ | exact trivial | refine AltVC.mk ?_ ?_ | refine HeldVC.mk rfl ?_ | refine CallVC.pure h1 rfl ?_ | refine CallVC.res [] rfl h2 rfl ?_ | refine OpVC.more tt_ok ?_ | refine RestVC.ext tt_ok ?_)); all_goals (conv => whnf)
    exact RetVC.res rfl rfl
  | false =>
    have h1 := isLine_spec w (by omega)
    rw [hl] at h1
    have e : askF w kinds = [] := by simp [askF, hl]
    rw [e]
    (repeat' ((conv => whnf); first | refine CondVC.t ?_ | refine CondVC.f ?_ | refine CondVC.dec (fun h => ?_) (fun h => ?_) | refine CondVC.ndec (fun h => ?_) (fun h => ?_) | refine CondVC.mk (fun h => ?_) (fun h => ?_) | refine ArVC.i64 (by omega) ?_ | refine SideVC.mk (by first | omega | decide | (simp [slS]; done) | (simp [slS]; omega) | (simp only [byteE_len, mvE_len, strE_len, intE_len, esC_len, List.length_cons, List.length_nil, List.length_append, List.length_replicate, List.length_set, Int.toNat_natCast, and_true] at *; omega)) ?_ | refine LoopN.go ?_ | exact trivial | refine AltVC.mk ?_ ?_ | refine HeldVC.mk rfl ?_ | refine CallVC.pure h1 rfl ?_ | refine OpVC.more tt_ok ?_ | refine RestVC.ext tt_ok ?_)); all_goals (conv => whnf)
    exact RetVC.nil 1001 46 2 [.c (.sl 1001), vb false] [] rfl rfl rfl (RetVC.res rfl rfl)

theorem implMovesOf_spec (w : Tx) (hw : w.length ≤ 1048576) : Spec Tryd.prog 23 [.c (.str w)] [] (isRes [.c (.sl 1001), vb (lineOf w 12)] [(1001, .sl 46 2 (mvE (askF w [84, 70])))]) := by
  refine Spec.of_wpx tt_ok Tryd.func23 (by kernel_rfl) rfl ?_
  (repeat' ((conv => whnf); first | refine CondVC.t ?_ | refine CondVC.f ?_ | refine CondVC.dec (fun h => ?_) (fun h => ?_) | refine CondVC.ndec (fun h => ?_) (fun h => ?_) | refine CondVC.mk (fun h => ?_) (fun h => ?_) | refine ArVC.i64 (by omega) ?_ | refine SideVC.mk (by first | omega | decide | (simp [slS]; done) | (simp [slS]; omega) | (simp only [byteE_len, mvE_len, strE_len, intE_len, esC_len, List.length_cons, List.length_nil, List.length_append, List.length_replicate, List.length_set, Int.toNat_natCast, and_true] at *; omega)) ?_ | refine LoopN.go ?_ | exact trivial | refine AltVC.mk ?_ ?_ | refine HeldVC.mk rfl ?_ | refine CallVC.res [] rfl (movesIn_spec w [84, 70] hw) rfl ?_ | refine OpVC.more tt_ok ?_ | refine RestVC.ext tt_ok ?_)); all_goals (conv => whnf)
  all_goals exact RetVC.res rfl rfl
theorem implToadMoves_spec (w : Tx) (hw : w.length ≤ 1048576) : Spec Tryd.prog 28 [.c (.str w)] [] (isRes [.c (.sl 1001), vb (lineOf w 12)] [(1001, .sl 46 2 (mvE (askF w [84])))]) := by
  refine Spec.of_wpx tt_ok Tryd.func28 (by kernel_rfl) rfl ?_
  (repeat' ((conv => whnf); first | refine CondVC.t ?_ | refine CondVC.f ?_ | refine CondVC.dec (fun h => ?_) (fun h => ?_) | refine CondVC.ndec (fun h => ?_) (fun h => ?_) | refine CondVC.mk (fun h => ?_) (fun h => ?_) | refine ArVC.i64 (by omega) ?_ | refine SideVC.mk (by first | omega | decide | (simp [slS]; done) | (simp [slS]; omega) | (simp only [byteE_len, mvE_len, strE_len, intE_len, esC_len, List.length_cons, List.length_nil, List.length_append, List.length_replicate, List.length_set, Int.toNat_natCast, and_true] at *; omega)) ?_ | refine LoopN.go ?_ | exact trivial | refine AltVC.mk ?_ ?_ | refine HeldVC.mk rfl ?_ | refine CallVC.res [] rfl (movesIn_spec w [84] hw) rfl ?_ | refine OpVC.more tt_ok ?_ | refine RestVC.ext tt_ok ?_)); all_goals (conv => whnf)
  all_goals exact RetVC.res rfl rfl
theorem implFrogMoves_spec (w : Tx) (hw : w.length ≤ 1048576) : Spec Tryd.prog 30 [.c (.str w)] [] (isRes [.c (.sl 1001), vb (lineOf w 12)] [(1001, .sl 46 2 (mvE (askF w [70])))]) := by
  refine Spec.of_wpx tt_ok Tryd.func30 (by kernel_rfl) rfl ?_
  (repeat' ((conv => whnf); first | refine CondVC.t ?_ | refine CondVC.f ?_ | refine CondVC.dec (fun h => ?_) (fun h => ?_) | refine CondVC.ndec (fun h => ?_) (fun h => ?_) | refine CondVC.mk (fun h => ?_) (fun h => ?_) | refine ArVC.i64 (by omega) ?_ | refine SideVC.mk (by first | omega | decide | (simp [slS]; done) | (simp [slS]; omega) | (simp only [byteE_len, mvE_len, strE_len, intE_len, esC_len, List.length_cons, List.length_nil, List.length_append, List.length_replicate, List.length_set, Int.toNat_natCast, and_true] at *; omega)) ?_ | refine LoopN.go ?_ | exact trivial | refine AltVC.mk ?_ ?_ | refine HeldVC.mk rfl ?_ | refine CallVC.res [] rfl (movesIn_spec w [70] hw) rfl ?_ | refine OpVC.more tt_ok ?_ | refine RestVC.ext tt_ok ?_)); all_goals (conv => whnf)
  all_goals exact RetVC.res rfl rfl

theorem askLi {w : Tx} {toads frogs : Bool} (h : lineOf w 12 = true) : liMovesF w toads frogs = askF w (kindsF toads frogs) := by
  rw [liMoves_eq (line_ok h)]; simp [askF, h]

theorem specMovesOf_spec (w : Tx) (hw : w.length ≤ 1048576) : Spec Tryd.prog 22 [.c (.str w)] [] (isRes [.c (.sl 1001), vb (lineOf w 12)] [(1001, .sl 46 2 (mvE (askF w [84, 70])))]) := by
  refine Spec.of_wpx tt_ok Tryd.func22 (by kernel_rfl) rfl ?_
  cases hl : lineOf w 12 with
  | true =>
    have h1 := liGood_spec w (by omega)
    have h2 := liMoves_spec w true true (line_ok hl) (by have := line_len hl; omega)
    rw [hl] at h1
    rw [askLi hl] at h2
    (repeat' ((conv => whnf); first | refine CondVC.t ?_ | refine CondVC.f ?_ | refine CondVC.dec (fun h => ?_) (fun h => ?_) | refine CondVC.ndec (fun h => ?_) (fun h => ?_) | refine CondVC.mk (fun h => ?_) (fun h => ?_) | refine ArVC.i64 (by omega) ?_ | refine SideVC.mk (by first | omega | decide | (simp [slS]; done) | (simp [slS]; omega) | (simp only [byteE_len, mvE_len, strE_len, intE_len, esC_len, List.length_cons, List.length_nil, List.length_append, List.length_replicate, List.length_set, Int.toNat_natCast, and_true] at *; omega)) ?_ | refine LoopN.go ?_ | exact trivial | refine AltVC.mk ?_ ?_ | refine HeldVC.mk rfl ?_ | refine CallVC.pure h1 rfl ?_ | refine CallVC.res [] rfl h2 rfl ?_ | refine OpVC.more tt_ok ?_ | refine RestVC.ext tt_ok ?_)); all_goals (conv => whnf)
    exact RetVC.res rfl rfl
  | false =>
    have h1 := liGood_spec w (by omega)
    rw [hl] at h1
    have e : askF w [84, 70] = [] := by simp [askF, hl]
    rw [e]
    (repeat' ((conv => whnf); first | refine CondVC.t ?_ | refine CondVC.f ?_ | refine CondVC.dec (fun h => ?_) (fun h => ?_) | refine CondVC.ndec (fun h => ?_) (fun h => ?_) | refine CondVC.mk (fun h => ?_) (fun h => ?_) | refine ArVC.i64 (by omega) ?_ | refine SideVC.mk (by first | omega | decide | (simp [slS]; done) | (simp [slS]; omega) | (simp only [byteE_len, mvE_len, strE_len, intE_len, esC_len, List.length_cons, List.length_nil, List.length_append, List.length_replicate, List.length_set, Int.toNat_natCast, and_true] at *; omega)) ?_ | refine LoopN.go ?_ | exact trivial | refine AltVC.mk ?_ ?_ | refine HeldVC.mk rfl ?_ | refine CallVC.pure h1 rfl ?_ | refine OpVC.more tt_ok ?_ | refine RestVC.ext tt_ok ?_)); all_goals (conv => whnf)
    exact RetVC.nil 1001 46 2 [.c (.sl 1001), vb false] [] rfl rfl rfl (RetVC.res rfl rfl)
theorem specToadMoves_spec (w : Tx) (hw : w.length ≤ 1048576) : Spec Tryd.prog 27 [.c (.str w)] [] (isRes [.c (.sl 1001), vb (lineOf w 12)] [(1001, .sl 46 2 (mvE (askF w [84])))]) := by
  refine Spec.of_wpx tt_ok Tryd.func27 (by kernel_rfl) rfl ?_
  cases hl : lineOf w 12 with
  | true =>
    have h1 := liGood_spec w (by omega)
    have h2 := liMoves_spec w true false (line_ok hl) (by have := line_len hl; omega)
    rw [hl] at h1
    rw [askLi hl] at h2
    (repeat' ((conv => whnf); first | refine CondVC.t ?_ | refine CondVC.f ?_ | refine CondVC.dec (fun h => ?_) (fun h => ?_) | refine CondVC.ndec (fun h => ?_) (fun h => ?_) | refine CondVC.mk (fun h => ?_) (fun h => ?_) | refine ArVC.i64 (by omega) ?_ | refine SideVC.mk (by first | omega | decide | (simp [slS]; done) | (simp [slS]; omega) | (simp only [byteE_len, mvE_len, strE_len, intE_len, esC_len, List.length_cons, List.length_nil, List.length_append, List.length_replicate, List.length_set, Int.toNat_natCast, and_true] at *; omega)) ?_ | refine LoopN.go ?_ | exact trivial | refine AltVC.mk ?_ ?_ | refine HeldVC.mk rfl ?_ | refine CallVC.pure h1 rfl ?_ | refine CallVC.res [] rfl h2 rfl ?_ | refine OpVC.more tt_ok ?_ | refine RestVC.ext tt_ok ?_)); all_goals (conv => whnf)
    exact RetVC.res rfl rfl
  | false =>
    have h1 := liGood_spec w (by omega)
    rw [hl] at h1
    have e : askF w [84] = [] := by simp [askF, hl]
    rw [e]
    (repeat' ((conv => whnf); first | refine CondVC.t ?_ | refine CondVC.f ?_ | refine CondVC.dec (fun h => ?_) (fun h => ?_) | refine CondVC.ndec (fun h => ?_) (fun h => ?_) | refine CondVC.mk (fun h => ?_) (fun h => ?_) | refine ArVC.i64 (by omega) ?_ | refine SideVC.mk (by first | omega | decide | (simp [slS]; done) | (simp [slS]; omega) | (simp only [byteE_len, mvE_len, strE_len, intE_len, esC_len, List.length_cons, List.length_nil, List.length_append, List.length_replicate, List.length_set, Int.toNat_natCast, and_true] at *; omega)) ?_ | refine LoopN.go ?_ | exact trivial | refine AltVC.mk ?_ ?_ | refine HeldVC.mk rfl ?_ | refine CallVC.pure h1 rfl ?_ | refine OpVC.more tt_ok ?_ | refine RestVC.ext tt_ok ?_)); all_goals (conv => whnf)
    exact RetVC.nil 1001 46 2 [.c (.sl 1001), vb false] [] rfl rfl rfl (RetVC.res rfl rfl)
theorem specFrogMoves_spec (w : Tx) (hw : w.length ≤ 1048576) : Spec Tryd.prog 29 [.c (.str w)] [] (isRes [.c (.sl 1001), vb (lineOf w 12)] [(1001, .sl 46 2 (mvE (askF w [70])))]) := by
  refine Spec.of_wpx tt_ok Tryd.func29 (by kernel_rfl) rfl ?_
  cases hl : lineOf w 12 with
  | true =>
    have h1 := liGood_spec w (by omega)
    have h2 := liMoves_spec w false true (line_ok hl) (by have := line_len hl; omega)
    rw [hl] at h1
    rw [askLi hl] at h2
    (repeat' ((conv => whnf); first | refine CondVC.t ?_ | refine CondVC.f ?_ | refine CondVC.dec (fun h => ?_) (fun h => ?_) | refine CondVC.ndec (fun h => ?_) (fun h => ?_) | refine CondVC.mk (fun h => ?_) (fun h => ?_) | refine ArVC.i64 (by omega) ?_ | refine SideVC.mk (by first | omega | decide | (simp [slS]; done) | (simp [slS]; omega) | (simp only [byteE_len, mvE_len, strE_len, intE_len, esC_len, List.length_cons, List.length_nil, List.length_append, List.length_replicate, List.length_set, Int.toNat_natCast, and_true] at *; omega)) ?_ | refine LoopN.go ?_ | exact trivial | refine AltVC.mk ?_ ?_ | refine HeldVC.mk rfl ?_ | refine CallVC.pure h1 rfl ?_ | refine CallVC.res [] rfl h2 rfl ?_ | refine OpVC.more tt_ok ?_ | refine RestVC.ext tt_ok ?_)); all_goals (conv => whnf)
    exact RetVC.res rfl rfl
  | false =>
    have h1 := liGood_spec w (by omega)
    rw [hl] at h1
    have e : askF w [70] = [] := by simp [askF, hl]
    rw [e]
    (repeat' ((conv => whnf); first | refine CondVC.t ?_ | refine CondVC.f ?_ | refine CondVC.dec (fun h => ?_) (fun h => ?_) | refine CondVC.ndec (fun h => ?_) (fun h => ?_) | refine CondVC.mk (fun h => ?_) (fun h => ?_) | refine ArVC.i64 (by omega) ?_ | refine SideVC.mk (by first | omega | decide | (simp [slS]; done) | (simp [slS]; omega) | (simp only [byteE_len, mvE_len, strE_len, intE_len, esC_len, List.length_cons, List.length_nil, List.length_append, List.length_replicate, List.length_set, Int.toNat_natCast, and_true] at *; omega)) ?_ | refine LoopN.go ?_ | exact trivial | refine AltVC.mk ?_ ?_ | refine HeldVC.mk rfl ?_ | refine CallVC.pure h1 rfl ?_ | refine OpVC.more tt_ok ?_ | refine RestVC.ext tt_ok ?_)); all_goals (conv => whnf)
    exact RetVC.nil 1001 46 2 [.c (.sl 1001), vb false] [] rfl rfl rfl (RetVC.res rfl rfl)

theorem implIsBlocked1_spec (w : Tx) (hw : w.length ≤ 1000000) : Spec Tryd.prog 49 [.c (.str w)] [] (isRes [vb (decide ((movesF w [84, 70]).length = 0))] []) := by
  refine Spec.of_wpx tt_ok Tryd.func49 (by kernel_rfl) rfl ?_
  (repeat' ((conv => whnf); first | refine CondVC.t ?_ | refine CondVC.f ?_ | refine CondVC.dec (fun h => ?_) (fun h => ?_) | refine CondVC.ndec (fun h => ?_) (fun h => ?_) | refine CondVC.mk (fun h => ?_) (fun h => ?_) | refine ArVC.i64 (by omega) ?_ | refine SideVC.mk (by first | omega | decide | (simp [slS]; done) | (simp [slS]; omega) | (simp only [byteE_len, mvE_len, strE_len, intE_len, esC_len, List.length_cons, List.length_nil, List.length_append, List.length_replicate, List.length_set, Int.toNat_natCast, and_true] at *; omega)) ?_ | refine LoopN.go ?_ | exact trivial | refine AltVC.mk ?_ ?_ | refine HeldVC.mk rfl ?_ | refine CallVC.res [] rfl (moves_spec w [84, 70] hw) rfl ?_ | refine OpVC.more tt_ok ?_ | refine RestVC.ext tt_ok ?_)); all_goals (conv => whnf)
  all_goals exact RetVC.res (by simp [vb, mvE_len]) rfl
def blockF (w : Tx) : Bool := lineOf w 12 && decide ((movesF w [84, 70]).length = 0)
theorem implIsBlocked_spec (w : Tx) (hw : w.length ≤ 1048576) : Spec Tryd.prog 21 [.c (.str w)] [] (isRes [vb (blockF w), vb (lineOf w 12)] []) := by
  refine Spec.of_wpx tt_ok Tryd.func21 (by kernel_rfl) rfl ?_
  have h1 := isLine_spec w (by omega)
  cases hl : lineOf w 12 with
  | true =>
    rw [hl] at h1
    (repeat' ((conv => whnf); first | refine CondVC.t ?_ | refine CondVC.f ?_ | refine CondVC.dec (fun h => ?_) (fun h => ?_) | refine CondVC.ndec (fun h => ?_) (fun h => ?_) | refine CondVC.mk (fun h => ?_) (fun h => ?_) | refine ArVC.i64 (by omega) ?_ | refine SideVC.mk (by first | omega | decide | (simp [slS]; done) | (simp [slS]; omega) | (simp only [byteE_len, mvE_len, strE_len, intE_len, esC_len, List.length_cons, List.length_nil, List.length_append, List.length_replicate, List.length_set, Int.toNat_natCast, and_true] at *; omega)) ?_ | refine LoopN.go ?_ | exact trivial | refine AltVC.mk ?_ ?_ | refine HeldVC.mk rfl ?_ | refine CallVC.pure h1 rfl ?_ | refine CallVC.pure (implIsBlocked1_spec w (by have := line_len hl; omega)) rfl ?_ | refine OpVC.more tt_ok ?_ | refine RestVC.ext tt_ok ?_)); all_goals (conv => whnf)
    all_goals exact RetVC.res (by simp [blockF, hl, vb]) rfl
  | false =>
    rw [hl] at h1
    (repeat' ((conv => whnf); first | refine CondVC.t ?_ | refine CondVC.f ?_ | refine CondVC.dec (fun h => ?_) (fun h => ?_) | refine CondVC.ndec (fun h => ?_) (fun h => ?_) | refine CondVC.mk (fun h => ?_) (fun h => ?_) | refine ArVC.i64 (by omega) ?_ | refine SideVC.mk (by first | omega | decide | (simp [slS]; done) | (simp [slS]; omega) | (simp only [byteE_len, mvE_len, strE_len, intE_len, esC_len, List.length_cons, List.length_nil, List.length_append, List.length_replicate, List.length_set, Int.toNat_natCast, and_true] at *; omega)) ?_ | refine LoopN.go ?_ | exact trivial | refine AltVC.mk ?_ ?_ | refine HeldVC.mk rfl ?_ | refine CallVC.pure h1 rfl ?_ | refine OpVC.more tt_ok ?_ | refine RestVC.ext tt_ok ?_)); all_goals (conv => whnf)
    all_goals exact RetVC.res (by simp [blockF, hl, vb]) rfl
theorem specIsBlocked_spec (w : Tx) (hw : w.length ≤ 1048576) : Spec Tryd.prog 20 [.c (.str w)] [] (isRes [vb (blockF w), vb (lineOf w 12)] []) := by
  refine Spec.of_wpx tt_ok Tryd.func20 (by kernel_rfl) rfl ?_
  have h1 := liGood_spec w (by omega)
  cases hl : lineOf w 12 with
  | true =>
    rw [hl] at h1
    have h2 := liMoves_spec w true true (line_ok hl) (by have := line_len hl; omega)
    rw [liMoves_eq (line_ok hl)] at h2
    (repeat' ((conv => whnf); first | refine CondVC.t ?_ | refine CondVC.f ?_ | refine CondVC.dec (fun h => ?_) (fun h => ?_) | refine CondVC.ndec (fun h => ?_) (fun h => ?_) | refine CondVC.mk (fun h => ?_) (fun h => ?_) | refine ArVC.i64 (by omega) ?_ | refine SideVC.mk (by first | omega | decide | (simp [slS]; done) | (simp [slS]; omega) | (simp only [byteE_len, mvE_len, strE_len, intE_len, esC_len, List.length_cons, List.length_nil, List.length_append, List.length_replicate, List.length_set, Int.toNat_natCast, and_true] at *; omega)) ?_ | refine LoopN.go ?_ | exact trivial | refine AltVC.mk ?_ ?_ | refine HeldVC.mk rfl ?_ | refine CallVC.pure h1 rfl ?_ | refine CallVC.res [] rfl h2 rfl ?_ | refine OpVC.more tt_ok ?_ | refine RestVC.ext tt_ok ?_)); all_goals (conv => whnf)
    all_goals exact RetVC.res (by simp [blockF, hl, vb, mvE_len, kindsF]) rfl
  | false =>
    rw [hl] at h1
    (repeat' ((conv => whnf); first | refine CondVC.t ?_ | refine CondVC.f ?_ | refine CondVC.dec (fun h => ?_) (fun h => ?_) | refine CondVC.ndec (fun h => ?_) (fun h => ?_) | refine CondVC.mk (fun h => ?_) (fun h => ?_) | refine ArVC.i64 (by omega) ?_ | refine SideVC.mk (by first | omega | decide | (simp [slS]; done) | (simp [slS]; omega) | (simp only [byteE_len, mvE_len, strE_len, intE_len, esC_len, List.length_cons, List.length_nil, List.length_append, List.length_replicate, List.length_set, Int.toNat_natCast, and_true] at *; omega)) ?_ | refine LoopN.go ?_ | exact trivial | refine AltVC.mk ?_ ?_ | refine HeldVC.mk rfl ?_ | refine CallVC.pure h1 rfl ?_ | refine OpVC.more tt_ok ?_ | refine RestVC.ext tt_ok ?_)); all_goals (conv => whnf)
    all_goals exact RetVC.res (by simp [blockF, hl, vb]) rfl

theorem lawIsBlocked_spec (w : Tx) (hw : w.length ≤ 9223372036854775807) : Spec Tryd.prog 6 [.c (.str w)] [] (isRes [vb true] []) := by
  refine Spec.of_wpx tt_ok Tryd.func6 (by kernel_rfl) rfl ?_
  (repeat' ((conv => whnf); first | refine CondVC.t ?_ | refine CondVC.f ?_ | refine CondVC.dec (fun h => ?_) (fun h => ?_) | refine CondVC.ndec (fun h => ?_) (fun h => ?_) | refine CondVC.mk (fun h => ?_) (fun h => ?_) | refine ArVC.i64 (by omega) ?_ | refine SideVC.mk (by first | omega | decide | (simp [slS]; done) | (simp [slS]; omega) | (simp only [byteE_len, mvE_len, strE_len, intE_len, esC_len, List.length_cons, List.length_nil, List.length_append, List.length_replicate, List.length_set, Int.toNat_natCast, and_true] at *; omega)) ?_ | refine LoopN.go ?_ | exact trivial | refine AltVC.mk ?_ ?_ | refine HeldVC.mk rfl ?_ | refine CallVC.pure (specIsBlocked_spec w (by omega)) rfl ?_ | refine CallVC.pure (implIsBlocked_spec w (by omega)) rfl ?_ | refine OpVC.more tt_ok ?_ | refine RestVC.ext tt_ok ?_)); all_goals (conv => whnf)
  all_goals first | exact RetVC.res rfl rfl | (exfalso; simp_all; done)

theorem eqMoveS_self (l : List Mv) (hl : l.length ≤ 2000000) : Spec Tryd.prog 24 [.c (.sl 1000), .c (.sl 1001)] [(1000, .sl 46 2 (mvE l)), (1001, .sl 46 2 (mvE l))]
    (isRes [vb true] [(1000, .sl 46 2 (mvE l)), (1001, .sl 46 2 (mvE l))]) := by
  have := eqMoveS_spec l l hl
  rwa [decide_eq_true rfl] at this

theorem lawMovesOf_spec (w : Tx) (hw : w.length ≤ 9223372036854775807) : Spec Tryd.prog 7 [.c (.str w)] [] (isRes [vb true] []) := by
  refine Spec.of_wpx tt_ok Tryd.func7 (by kernel_rfl) rfl ?_
  by_cases hb : w.length ≤ 1048576
  · have h1 := specMovesOf_spec w hb
    have h2 := implMovesOf_spec w hb
    have hl : (askF w [84, 70]).length ≤ 1048576 := by have := askF_len w [84, 70]; omega
    generalize askF w [84, 70] = l at *
    generalize lineOf w 12 = b at *
    cases b
    all_goals
      (repeat' ((conv => whnf); first | refine CondVC.t ?_ | refine CondVC.f ?_ | refine CondVC.dec (fun h => ?_) (fun h => ?_) | refine CondVC.ndec (fun h => ?_) (fun h => ?_) | refine CondVC.mk (fun h => ?_) (fun h => ?_) | refine ArVC.i64 (by omega) ?_ | refine SideVC.mk (by first | omega | decide | (simp [slS]; done) | (simp [slS]; omega) | (simp only [byteE_len, mvE_len, strE_len, intE_len, esC_len, List.length_cons, List.length_nil, List.length_append, List.length_replicate, List.length_set, Int.toNat_natCast, and_true] at *; omega)) ?_ | refine LoopN.go ?_ | exact trivial | refine AltVC.mk ?_ ?_ | refine HeldVC.mk rfl ?_ | refine CallVC.res [] rfl (Spec.ren [(1001, 2001)] [(2001, 1001)] h1 rfl rfl rfl) rfl ?_ | refine CallVC.res [] rfl (Spec.ren [(1001, 2002)] [(2002, 1001)] h2 rfl rfl rfl) rfl ?_ | refine CallVC.res [] rfl (Spec.ren [(1001, 2003)] [(2003, 1001)] h2 rfl rfl rfl) rfl ?_ | refine CallVC.res [2002, 2001] rfl (Spec.ren [(1000, 2002), (1001, 2001)] [(2002, 1000), (2001, 1001)] (eqMoveS_self l (by omega)) rfl rfl rfl) rfl ?_ | refine CallVC.res [2003, 2001] rfl (Spec.ren [(1000, 2003), (1001, 2001)] [(2003, 1000), (2001, 1001)] (eqMoveS_self l (by omega)) rfl rfl rfl) rfl ?_ | refine CallVC.res [2002] rfl (Spec.ren [(1000, 2002)] [(2002, 1000)] (markMoveS_spec l 1 (by omega) (by omega)) rfl rfl rfl) rfl ?_ | refine CallVC.res [2002] rfl (Spec.ren [(1000, 2002)] [(2002, 1000)] (heldMoveS_spec l.length 1 (by omega) (by omega)) rfl rfl rfl) rfl ?_ | refine OpVC.more tt_ok ?_ | refine RestVC.ext tt_ok ?_)); all_goals (conv => whnf)
    all_goals first | exact RetVC.res rfl rfl | (exfalso; omega) | (exfalso; simp_all; done)
  · (repeat' ((conv => whnf); first | refine CondVC.t ?_ | refine CondVC.f ?_ | refine CondVC.dec (fun h => ?_) (fun h => ?_) | refine CondVC.ndec (fun h => ?_) (fun h => ?_) | refine CondVC.mk (fun h => ?_) (fun h => ?_) | refine ArVC.i64 (by omega) ?_ | refine SideVC.mk (by first | omega | decide | (simp [slS]; done) | (simp [slS]; omega) | (simp only [byteE_len, mvE_len, strE_len, intE_len, esC_len, List.length_cons, List.length_nil, List.length_append, List.length_replicate, List.length_set, Int.toNat_natCast, and_true] at *; omega)) ?_ | refine LoopN.go ?_ | exact trivial | refine AltVC.mk ?_ ?_ | refine HeldVC.mk rfl ?_ | refine OpVC.more tt_ok ?_ | refine RestVC.ext tt_ok ?_)); all_goals (conv => whnf)
    all_goals first | exact RetVC.res rfl rfl | (exfalso; omega)

theorem lawToadMoves_spec (w : Tx) (hw : w.length ≤ 9223372036854775807) : Spec Tryd.prog 8 [.c (.str w)] [] (isRes [vb true] []) := by
  refine Spec.of_wpx tt_ok Tryd.func8 (by kernel_rfl) rfl ?_
  by_cases hb : w.length ≤ 1048576
  · have h1 := specToadMoves_spec w hb
    have h2 := implToadMoves_spec w hb
    have hl : (askF w [84]).length ≤ 1048576 := by have := askF_len w [84]; omega
    generalize askF w [84] = l at *
    generalize lineOf w 12 = b at *
    cases b
    all_goals
      (repeat' ((conv => whnf); first | refine CondVC.t ?_ | refine CondVC.f ?_ | refine CondVC.dec (fun h => ?_) (fun h => ?_) | refine CondVC.ndec (fun h => ?_) (fun h => ?_) | refine CondVC.mk (fun h => ?_) (fun h => ?_) | refine ArVC.i64 (by omega) ?_ | refine SideVC.mk (by first | omega | decide | (simp [slS]; done) | (simp [slS]; omega) | (simp only [byteE_len, mvE_len, strE_len, intE_len, esC_len, List.length_cons, List.length_nil, List.length_append, List.length_replicate, List.length_set, Int.toNat_natCast, and_true] at *; omega)) ?_ | refine LoopN.go ?_ | exact trivial | refine AltVC.mk ?_ ?_ | refine HeldVC.mk rfl ?_ | refine CallVC.res [] rfl (Spec.ren [(1001, 2001)] [(2001, 1001)] h1 rfl rfl rfl) rfl ?_ | refine CallVC.res [] rfl (Spec.ren [(1001, 2002)] [(2002, 1001)] h2 rfl rfl rfl) rfl ?_ | refine CallVC.res [] rfl (Spec.ren [(1001, 2003)] [(2003, 1001)] h2 rfl rfl rfl) rfl ?_ | refine CallVC.res [2002, 2001] rfl (Spec.ren [(1000, 2002), (1001, 2001)] [(2002, 1000), (2001, 1001)] (eqMoveS_self l (by omega)) rfl rfl rfl) rfl ?_ | refine CallVC.res [2003, 2001] rfl (Spec.ren [(1000, 2003), (1001, 2001)] [(2003, 1000), (2001, 1001)] (eqMoveS_self l (by omega)) rfl rfl rfl) rfl ?_ | refine CallVC.res [2002] rfl (Spec.ren [(1000, 2002)] [(2002, 1000)] (markMoveS_spec l 1 (by omega) (by omega)) rfl rfl rfl) rfl ?_ | refine CallVC.res [2002] rfl (Spec.ren [(1000, 2002)] [(2002, 1000)] (heldMoveS_spec l.length 1 (by omega) (by omega)) rfl rfl rfl) rfl ?_ | refine OpVC.more tt_ok ?_ | refine RestVC.ext tt_ok ?_)); all_goals (conv => whnf)
    all_goals first | exact RetVC.res rfl rfl | (exfalso; omega) | (exfalso; simp_all; done)
  · (repeat' ((conv => whnf); first | refine CondVC.t ?_ | refine CondVC.f ?_ | refine CondVC.dec (fun h => ?_) (fun h => ?_) | refine CondVC.ndec (fun h => ?_) (fun h => ?_) | refine CondVC.mk (fun h => ?_) (fun h => ?_) | refine ArVC.i64 (by omega) ?_ | refine SideVC.mk (by first | omega | decide | (simp [slS]; done) | (simp [slS]; omega) | (simp only [byteE_len, mvE_len, strE_len, intE_len, esC_len, List.length_cons, List.length_nil, List.length_append, List.length_replicate, List.length_set, Int.toNat_natCast, and_true] at *; omega)) ?_ | refine LoopN.go ?_ | exact trivial | refine AltVC.mk ?_ ?_ | refine HeldVC.mk rfl ?_ | refine OpVC.more tt_ok ?_ | refine RestVC.ext tt_ok ?_)); all_goals (conv => whnf)
    all_goals first | exact RetVC.res rfl rfl | (exfalso; omega)

theorem lawFrogMoves_spec (w : Tx) (hw : w.length ≤ 9223372036854775807) : Spec Tryd.prog 9 [.c (.str w)] [] (isRes [vb true] []) := by
  refine Spec.of_wpx tt_ok Tryd.func9 (by kernel_rfl) rfl ?_
  by_cases hb : w.length ≤ 1048576
  · have h1 := specFrogMoves_spec w hb
    have h2 := implFrogMoves_spec w hb
    have hl : (askF w [70]).length ≤ 1048576 := by have := askF_len w [70]; omega
    generalize askF w [70] = l at *
    generalize lineOf w 12 = b at *
    cases b
    all_goals
      (repeat' ((conv => whnf); first | refine CondVC.t ?_ | refine CondVC.f ?_ | refine CondVC.dec (fun h => ?_) (fun h => ?_) | refine CondVC.ndec (fun h => ?_) (fun h => ?_) | refine CondVC.mk (fun h => ?_) (fun h => ?_) | refine ArVC.i64 (by omega) ?_ | refine SideVC.mk (by first | omega | decide | (simp [slS]; done) | (simp [slS]; omega) | (simp only [byteE_len, mvE_len, strE_len, intE_len, esC_len, List.length_cons, List.length_nil, List.length_append, List.length_replicate, List.length_set, Int.toNat_natCast, and_true] at *; omega)) ?_ | refine LoopN.go ?_ | exact trivial | refine AltVC.mk ?_ ?_ | refine HeldVC.mk rfl ?_ | refine CallVC.res [] rfl (Spec.ren [(1001, 2001)] [(2001, 1001)] h1 rfl rfl rfl) rfl ?_ | refine CallVC.res [] rfl (Spec.ren [(1001, 2002)] [(2002, 1001)] h2 rfl rfl rfl) rfl ?_ | refine CallVC.res [] rfl (Spec.ren [(1001, 2003)] [(2003, 1001)] h2 rfl rfl rfl) rfl ?_ | refine CallVC.res [2002, 2001] rfl (Spec.ren [(1000, 2002), (1001, 2001)] [(2002, 1000), (2001, 1001)] (eqMoveS_self l (by omega)) rfl rfl rfl) rfl ?_ | refine CallVC.res [2003, 2001] rfl (Spec.ren [(1000, 2003), (1001, 2001)] [(2003, 1000), (2001, 1001)] (eqMoveS_self l (by omega)) rfl rfl rfl) rfl ?_ | refine CallVC.res [2002] rfl (Spec.ren [(1000, 2002)] [(2002, 1000)] (markMoveS_spec l 1 (by omega) (by omega)) rfl rfl rfl) rfl ?_ | refine CallVC.res [2002] rfl (Spec.ren [(1000, 2002)] [(2002, 1000)] (heldMoveS_spec l.length 1 (by omega) (by omega)) rfl rfl rfl) rfl ?_ | refine OpVC.more tt_ok ?_ | refine RestVC.ext tt_ok ?_)); all_goals (conv => whnf)
    all_goals first | exact RetVC.res rfl rfl | (exfalso; omega) | (exfalso; simp_all; done)
  · (repeat' ((conv => whnf); first | refine CondVC.t ?_ | refine CondVC.f ?_ | refine CondVC.dec (fun h => ?_) (fun h => ?_) | refine CondVC.ndec (fun h => ?_) (fun h => ?_) | refine CondVC.mk (fun h => ?_) (fun h => ?_) | refine ArVC.i64 (by omega) ?_ | refine SideVC.mk (by first | omega | decide | (simp [slS]; done) | (simp [slS]; omega) | (simp only [byteE_len, mvE_len, strE_len, intE_len, esC_len, List.length_cons, List.length_nil, List.length_append, List.length_replicate, List.length_set, Int.toNat_natCast, and_true] at *; omega)) ?_ | refine LoopN.go ?_ | exact trivial | refine AltVC.mk ?_ ?_ | refine HeldVC.mk rfl ?_ | refine OpVC.more tt_ok ?_ | refine RestVC.ext tt_ok ?_)); all_goals (conv => whnf)
    all_goals first | exact RetVC.res rfl rfl | (exfalso; omega)

end Go.Proofs.YtmnpccdioifhoaaDoor.X
