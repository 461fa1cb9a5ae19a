/- Moves of lines: what the laws ask of them. No condition beyond each statement's. -/
import Derived.Test.YtblihaicbhdbdaaDoorLine
namespace Go.Proofs.YtblihaicbhdbdaaDoor.X
open Go.Proofs
set_option maxRecDepth 100000
set_option linter.unusedVariables false
set_option linter.unusedSimpArgs false

theorem eqMove_spec (m n : Mv) : Spec Tryd.prog 43 [.agg (mvC m), .agg (mvC n)] [] (isRes [vb (decide (m = n))] []) := by
  obtain ⟨a, b⟩ := m
  obtain ⟨c, d⟩ := n
  refine Spec.of_wpx tt_ok Tryd.func43 (by kernel_rfl) rfl ?_
  (repeat' ((conv => whnf); first | refine CondVC.t ?_ | refine CondVC.f ?_ | refine CondVC.dec (fun h => ?_) (fun h => ?_) | refine CondVC.ndec (fun h => ?_) (fun h => ?_) | refine CondVC.mk (fun h => ?_) (fun h => ?_) | refine ArVC.i64 (by first | omega | (simp only; omega)) ?_ | refine SideVC.mk (by first | omega | decide | (simp only; omega) | (simp [slS]; done) | (simp [slS]; omega) | (simp only [byteE_len, mvE_len, strE_len, intE_len, esC_len, List.length_cons, List.length_nil, List.length_append, List.length_replicate, List.length_set, Int.toNat_natCast, and_true] at *; omega)) ?_ | refine LoopN.go ?_ | exact trivial | refine AltVC.mk ?_ ?_ | refine HeldVC.mk rfl ?_ | refine OpVC.more tt_ok ?_ | refine RestVC.ext tt_ok ?_)); all_goals (conv => whnf)
  all_goals exact RetVC.res (by simp_all [vb]) rfl

theorem eqMoveS_spec (l l' : List Mv) (hl : l.length ≤ 2000000) : Spec Tryd.prog 16 [.c (.sl 1000), .c (.sl 1001)] [(1000, .sl 45 2 (mvE l)), (1001, .sl 45 2 (mvE l'))]
    (isRes [vb (decide (l = l'))] [(1000, .sl 45 2 (mvE l)), (1001, .sl 45 2 (mvE l'))]) := by
  have hn := mvE_len l
  have hn' := mvE_len l'
  refine Spec.of_wpx tt_ok Tryd.func16 (by kernel_rfl) rfl ?_
  (repeat' ((conv => whnf); first | refine CondVC.t ?_ | refine CondVC.f ?_ | refine CondVC.dec (fun h => ?_) (fun h => ?_) | refine CondVC.ndec (fun h => ?_) (fun h => ?_) | refine CondVC.mk (fun h => ?_) (fun h => ?_) | refine ArVC.i64 (by first | omega | (simp only; omega)) ?_ | refine SideVC.mk (by first | omega | decide | (simp only; omega) | (simp [slS]; done) | (simp [slS]; omega) | (simp only [byteE_len, mvE_len, strE_len, intE_len, esC_len, List.length_cons, List.length_nil, List.length_append, List.length_replicate, List.length_set, Int.toNat_natCast, and_true] at *; omega)) ?_ | refine LoopN.go ?_ | exact trivial | refine AltVC.mk ?_ ?_ | refine HeldVC.mk rfl ?_ | refine OpVC.more tt_ok ?_ | refine RestVC.ext tt_ok ?_)); all_goals (conv => whnf)
  · exact RetVC.res (by simp only [vb]; rw [decide_eq_false]; intro e; apply h; rw [e]) rfl
  have hll : l.length = l'.length := by simp only [hn, hn', Classical.not_not] at h; omega
  refine LoopVC.mk (G := Nat) (fun k => ⟨[(5, .v (i64 k)), (1, .v (.c (.sl 1001))), (0, .v (.c (.sl 1000)))], [(1000, .sl 45 2 (mvE l)), (1001, .sl 45 2 (mvE l'))]⟩)
    (fun k => k ≤ l.length ∧ l.take k = l'.take k) (fun k => l.length - k) 0 ⟨by omega, by simp⟩ (Sub.mk [] [] ⟨rfl, rfl, rfl, trivial⟩ rfl rfl) ?_
  intro k ⟨hk, hkt⟩
  (repeat' ((conv => whnf); first | refine CondVC.t ?_ | refine CondVC.f ?_ | refine CondVC.dec (fun h => ?_) (fun h => ?_) | refine CondVC.ndec (fun h => ?_) (fun h => ?_) | refine CondVC.mk (fun h => ?_) (fun h => ?_) | refine ArVC.i64 (by first | omega | (simp only; omega)) ?_ | refine SideVC.mk (by first | omega | decide | (simp only; omega) | (simp [slS]; done) | (simp [slS]; omega) | (simp only [byteE_len, mvE_len, strE_len, intE_len, esC_len, List.length_cons, List.length_nil, List.length_append, List.length_replicate, List.length_set, Int.toNat_natCast, and_true] at *; omega)) ?_ | refine LoopN.go ?_ | exact trivial | refine AltVC.mk ?_ ?_ | refine HeldVC.mk rfl ?_ | refine DrawVC.quiet tt_ok (by kernel_rfl) (by kernel_rfl) ?_ | refine QCallVC.pure (eqMove_spec _ _) rfl ?_ | refine LoadVC.mk _ (mvE_get (l := l) (k := k) (by simp only [hn] at *; omega)) ?_ | refine LoadVC.mk _ (mvE_get (l := l') (k := k) (by simp only [hn] at *; omega)) ?_ | refine OpVC.more tt_ok ?_ | refine RestVC.ext tt_ok ?_)); all_goals (conv => whnf)
  · rename_i hk' h'
    have hk2 : k < l.length := by simp only [hn] at hk'; omega
    refine RetVC.res ?_ rfl
    simp only [vb]
    rw [decide_eq_false]
    intro e
    subst e
    exact h rfl
  · rename_i hk'
    have hk2 : k < l.length := by simp only [hn] at hk'; omega
    exact ⟨k + 1, ⟨hk2, by rw [List.take_succ_eq_append_getElem hk2, List.take_succ_eq_append_getElem (by omega), hkt, h]⟩, by omega, Sub.mk [] [] ⟨rfl, rfl, rfl, trivial⟩ rfl rfl⟩
  · have hk2 : k = l.length := by simp only [hn] at h; omega
    refine RetVC.res ?_ rfl
    simp only [vb]
    rw [decide_eq_true]
    rw [hk2, List.take_length, hll, List.take_length] at hkt
    exact hkt

/-- Cells numbered on from k. -/
def marks (k : Int) (n : Nat) : List Mv := (List.range n).map fun (i : Nat) => (k + 2 * (i : Int), k + 2 * (i : Int) + 1)
theorem marks_len (k : Int) (n : Nat) : (marks k n).length = n := by simp [marks]
theorem marks_get (k : Int) (n : Nat) {i : Nat} (h : i < (marks k n).length) : (marks k n)[i] = (k + 2 * (i : Int), k + 2 * (i : Int) + 1) := by simp [marks]
def marked (l : List Mv) (k : Int) (i : Nat) : List Mv := marks k i ++ l.drop i
theorem marked_len {l : List Mv} {k : Int} {i : Nat} (h : i ≤ l.length) : (marked l k i).length = l.length := by simp [marked, marks_len]; omega
theorem marked_at {l : List Mv} {k : Int} {i : Nat} (h : i < l.length) : (marked l k i)[i]? = some l[i] := by
  unfold marked
  rw [List.getElem?_append_right (by rw [marks_len]; omega), marks_len, Nat.sub_self, List.getElem?_drop, Nat.add_zero, List.getElem?_eq_getElem h]
theorem marked_set {l : List Mv} {k : Int} {i : Nat} (h : i < l.length) : (marked l k i).set i (k + 2 * (i : Int), k + 2 * (i : Int) + 1) = marked l k (i + 1) := by
  unfold marked
  rw [List.set_append_right _ _ (by rw [marks_len]; omega), marks_len, Nat.sub_self, List.drop_eq_getElem_cons h, List.set_cons_zero]
  have : marks k (i + 1) = marks k i ++ [(k + 2 * (i : Int), k + 2 * (i : Int) + 1)] := by simp [marks, List.range_succ]
  rw [this, List.append_assoc]
  rfl

theorem markMoveS_spec (l : List Mv) (k : Int) (hl : l.length ≤ 2000000) (hk0 : 0 ≤ k ∧ k ≤ 1000000000) : Spec Tryd.prog 17 [.c (.sl 1000), i64 k] [(1000, .sl 45 2 (mvE l))]
    (isRes [i64 (k + 2 * l.length)] [(1000, .sl 45 2 (mvE (marks k l.length)))]) := by
  refine Spec.of_wpx tt_ok Tryd.func17 (by kernel_rfl) rfl ?_
  (repeat' ((conv => whnf); first | refine CondVC.t ?_ | refine CondVC.f ?_ | refine CondVC.dec (fun h => ?_) (fun h => ?_) | refine CondVC.ndec (fun h => ?_) (fun h => ?_) | refine CondVC.mk (fun h => ?_) (fun h => ?_) | refine ArVC.i64 (by first | omega | (simp only; omega)) ?_ | refine SideVC.mk (by first | omega | decide | (simp only; omega) | (simp [slS]; done) | (simp [slS]; omega) | (simp only [byteE_len, mvE_len, strE_len, intE_len, esC_len, List.length_cons, List.length_nil, List.length_append, List.length_replicate, List.length_set, Int.toNat_natCast, and_true] at *; omega)) ?_ | refine LoopN.go ?_ | exact trivial | refine AltVC.mk ?_ ?_ | refine HeldVC.mk rfl ?_ | refine OpVC.more tt_ok ?_ | refine RestVC.ext tt_ok ?_)); all_goals (conv => whnf)
  refine LoopVC.mk (G := Nat) (fun i => ⟨[(5, .v (i64 i)), (1, .v (i64 (k + 2 * i))), (0, .v (.c (.sl 1000)))], [(1000, .sl 45 2 (mvE (marked l k i)))]⟩)
    (fun i => i ≤ l.length) (fun i => l.length - i) 0 (by omega) (Sub.mk [] [] ⟨rfl, congrArg (fun z => some (E.v (i64 z))) (show k = k + 2 * ((0 : Nat) : Int) by omega), rfl, trivial⟩ (by rw [show marked l k 0 = l from by simp [marked, marks]]; rfl) rfl) ?_
  intro i hi
  have hml := marked_len (l := l) (k := k) hi
  have hme := mvE_len (marked l k i)
  by_cases hil : i < l.length
  · have hg1 : (mvE (marked l k i))[i]? = some (mvC l[i]) := by unfold mvE; rw [List.getElem?_map, marked_at hil]; rfl
    have hg2 : ((mvE (marked l k i)).set (Int.toNat (i : Int)) (setAt (mvC l[i]) 0 [C.int .i64 (k + 2 * i)]))[i]? = some [C.int .i64 (k + 2 * i), C.int .i64 l[i].2] := by
      rw [Int.toNat_natCast, List.getElem?_set_self (by omega)]; rfl
    (repeat' ((conv => whnf); first | refine CondVC.t ?_ | refine CondVC.f ?_ | refine CondVC.dec (fun h => ?_) (fun h => ?_) | refine CondVC.ndec (fun h => ?_) (fun h => ?_) | refine CondVC.mk (fun h => ?_) (fun h => ?_) | refine ArVC.i64 (by first | omega | (simp only; omega)) ?_ | refine SideVC.mk (by first | omega | decide | (simp only; omega) | (simp [slS]; done) | (simp [slS]; omega) | (simp only [byteE_len, mvE_len, strE_len, intE_len, esC_len, List.length_cons, List.length_nil, List.length_append, List.length_replicate, List.length_set, Int.toNat_natCast, and_true] at *; omega)) ?_ | refine LoopN.go ?_ | exact trivial | refine AltVC.mk ?_ ?_ | refine HeldVC.mk rfl ?_ | refine LoadVC.mk _ hg1 ?_ | refine LoadVC.mk _ hg2 ?_ | refine OpVC.more tt_ok ?_ | refine RestVC.ext tt_ok ?_)); all_goals (conv => whnf)
    · have hfin : (((mvE (marked l k i)).set (Int.toNat (i : Int)) (setAt (mvC l[i]) 0 [C.int .i64 (k + 2 * i)])).set (Int.toNat (i : Int)) (setAt [C.int .i64 (k + 2 * i), C.int .i64 l[i].2] (0 + 1) [C.int .i64 (k + 2 * i + 1)])) = mvE (marked l k (i + 1)) := by
        rw [Int.toNat_natCast, List.set_set]
        unfold mvE
        rw [← marked_set hil, List.map_set]
        rfl
      exact ⟨i + 1, by omega, by omega, Sub.mk [] _ ⟨rfl, congrArg (fun z => some (E.v (i64 z))) (show k + 2 * (i : Int) + 1 + 1 = k + 2 * ((i + 1 : Nat) : Int) by omega), rfl, trivial⟩ (by rw [← hfin]; rfl) rfl⟩
    · omega
  · have hi' : i = l.length := by omega
    (repeat' ((conv => whnf); first | refine CondVC.t ?_ | refine CondVC.f ?_ | refine CondVC.dec (fun h => ?_) (fun h => ?_) | refine CondVC.ndec (fun h => ?_) (fun h => ?_) | refine CondVC.mk (fun h => ?_) (fun h => ?_) | refine ArVC.i64 (by first | omega | (simp only; omega)) ?_ | refine SideVC.mk (by first | omega | decide | (simp only; omega) | (simp [slS]; done) | (simp [slS]; omega) | (simp only [byteE_len, mvE_len, strE_len, intE_len, esC_len, List.length_cons, List.length_nil, List.length_append, List.length_replicate, List.length_set, Int.toNat_natCast, and_true] at *; omega)) ?_ | refine LoopN.go ?_ | exact trivial | refine AltVC.mk ?_ ?_ | refine HeldVC.mk rfl ?_ | refine OpVC.more tt_ok ?_ | refine RestVC.ext tt_ok ?_)); all_goals (conv => whnf)
    · omega
    · exact RetVC.res (by rw [hi']; rfl) (by rw [show marks k l.length = marked l k i from by simp [marked, hi']]; rfl)

theorem heldMoveS_spec (n : Nat) (k : Int) (hl : n ≤ 2000000) (hk0 : 0 ≤ k ∧ k ≤ 1000000000) : Spec Tryd.prog 18 [.c (.sl 1000), i64 k] [(1000, .sl 45 2 (mvE (marks k n)))]
    (isRes [i64 (k + 2 * n)] [(1000, .sl 45 2 (mvE (marks k n)))]) := by
  have hme := mvE_len (marks k n)
  rw [marks_len] at hme
  refine Spec.of_wpx tt_ok Tryd.func18 (by kernel_rfl) rfl ?_
  (repeat' ((conv => whnf); first | refine CondVC.t ?_ | refine CondVC.f ?_ | refine CondVC.dec (fun h => ?_) (fun h => ?_) | refine CondVC.ndec (fun h => ?_) (fun h => ?_) | refine CondVC.mk (fun h => ?_) (fun h => ?_) | refine ArVC.i64 (by first | omega | (simp only; omega)) ?_ | refine SideVC.mk (by first | omega | decide | (simp only; omega) | (simp [slS]; done) | (simp [slS]; omega) | (simp only [byteE_len, mvE_len, strE_len, intE_len, esC_len, List.length_cons, List.length_nil, List.length_append, List.length_replicate, List.length_set, Int.toNat_natCast, and_true] at *; omega)) ?_ | refine LoopN.go ?_ | exact trivial | refine AltVC.mk ?_ ?_ | refine HeldVC.mk rfl ?_ | refine OpVC.more tt_ok ?_ | refine RestVC.ext tt_ok ?_)); all_goals (conv => whnf)
  refine LoopVC.mk (G := Nat) (fun i => ⟨[(5, .v (i64 i)), (1, .v (i64 (k + 2 * i))), (0, .v (.c (.sl 1000)))], [(1000, .sl 45 2 (mvE (marks k n)))]⟩)
    (fun i => i ≤ n) (fun i => n - i) 0 (by omega) (Sub.mk [] [] ⟨rfl, congrArg (fun z => some (E.v (i64 z))) (show k = k + 2 * ((0 : Nat) : Int) by omega), rfl, trivial⟩ rfl rfl) ?_
  intro i hi
  by_cases hil : i < n
  · have hg1 : (mvE (marks k n))[i]? = some [C.int .i64 (k + 2 * i), C.int .i64 (k + 2 * i + 1)] := by
      have h1 : i < (marks k n).length := by rw [marks_len]; exact hil
      rw [mvE_get h1, marks_get k n h1]; rfl
    (repeat' ((conv => whnf); first | refine CondVC.t ?_ | refine CondVC.f ?_ | refine CondVC.dec (fun h => ?_) (fun h => ?_) | refine CondVC.ndec (fun h => ?_) (fun h => ?_) | refine CondVC.mk (fun h => ?_) (fun h => ?_) | refine ArVC.i64 (by first | omega | (simp only; omega)) ?_ | refine SideVC.mk (by first | omega | decide | (simp only; omega) | (simp [slS]; done) | (simp [slS]; omega) | (simp only [byteE_len, mvE_len, strE_len, intE_len, esC_len, List.length_cons, List.length_nil, List.length_append, List.length_replicate, List.length_set, Int.toNat_natCast, and_true] at *; omega)) ?_ | refine LoopN.go ?_ | exact trivial | refine AltVC.mk ?_ ?_ | refine HeldVC.mk rfl ?_ | refine LoadVC.mk _ hg1 ?_ | refine OpVC.more tt_ok ?_ | refine RestVC.ext tt_ok ?_)); all_goals (conv => whnf)
    all_goals first
      | exact ⟨i + 1, by omega, by omega, Sub.mk [] _ ⟨rfl, congrArg (fun z => some (E.v (i64 z))) (show k + 2 * (i : Int) + 1 + 1 = k + 2 * ((i + 1 : Nat) : Int) by omega), rfl, trivial⟩ rfl rfl⟩
      | (exfalso; omega)
  · have hi' : i = n := by omega
    (repeat' ((conv => whnf); first | refine CondVC.t ?_ | refine CondVC.f ?_ | refine CondVC.dec (fun h => ?_) (fun h => ?_) | refine CondVC.ndec (fun h => ?_) (fun h => ?_) | refine CondVC.mk (fun h => ?_) (fun h => ?_) | refine ArVC.i64 (by first | omega | (simp only; omega)) ?_ | refine SideVC.mk (by first | omega | decide | (simp only; omega) | (simp [slS]; done) | (simp [slS]; omega) | (simp only [byteE_len, mvE_len, strE_len, intE_len, esC_len, List.length_cons, List.length_nil, List.length_append, List.length_replicate, List.length_set, Int.toNat_natCast, and_true] at *; omega)) ?_ | refine LoopN.go ?_ | exact trivial | refine AltVC.mk ?_ ?_ | refine HeldVC.mk rfl ?_ | refine OpVC.more tt_ok ?_ | refine RestVC.ext tt_ok ?_)); all_goals (conv => whnf)
    · omega
    · exact RetVC.res (by rw [hi']; rfl) rfl

/-! ### The moves of a line, as both tell them -/
def askF (w kinds : Tx) : List Mv := if lineOf w 12 then movesF w kinds else []
theorem movesF_len (w kinds : Tx) : (movesF w kinds).length ≤ w.length := movesTo_len w kinds w.length
theorem askF_len (w kinds : Tx) : (askF w kinds).length ≤ w.length := by
  unfold askF
  split
  · exact movesF_len w kinds
  · simp
theorem line_ok {w : Tx} {most : Int} (h : lineOf w most = true) : w.all okCh = true := by simp only [lineOf, Bool.and_eq_true] at h; exact h.2
theorem line_len {w : Tx} {most : Int} (h : lineOf w most = true) : 1 ≤ w.length ∧ (w.length : Int) ≤ most := by
  simp only [lineOf, Bool.and_eq_true, decide_eq_true_eq] at h
  omega



theorem askLi {w : Tx} {toads frogs : Bool} (h : lineOf w 12 = true) : liMovesF w toads frogs = askF w (kindsF toads frogs) := by
  rw [liMoves_eq (line_ok h)]; simp [askF, h]


def blockF (w : Tx) : Bool := lineOf w 12 && decide ((movesF w [84, 70]).length = 0)


theorem eqMoveS_self (l : List Mv) (hl : l.length ≤ 2000000) : Spec Tryd.prog 16 [.c (.sl 1000), .c (.sl 1001)] [(1000, .sl 45 2 (mvE l)), (1001, .sl 45 2 (mvE l))]
    (isRes [vb true] [(1000, .sl 45 2 (mvE l)), (1001, .sl 45 2 (mvE l))]) := by
  have := eqMoveS_spec l l hl
  rwa [decide_eq_true rfl] at this




end Go.Proofs.YtblihaicbhdbdaaDoor.X
