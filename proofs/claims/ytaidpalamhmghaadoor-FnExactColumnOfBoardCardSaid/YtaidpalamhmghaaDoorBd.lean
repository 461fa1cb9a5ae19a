/- Boards told by rows: FnExactOtherBoard. No condition beyond each statement's. -/
import Derived.Test.YtaidpalamhmghaaDoorSplit
namespace Go.Proofs.YtaidpalamhmghaaDoor.X
open Go.Proofs
set_option maxRecDepth 100000
set_option linter.unusedVariables false
set_option linter.unusedSimpArgs false
def rowOk (L : List Tx) (r : Tx) : Bool := lineOf r 5 && decide (r.length = (L.getD 0 []).length)
def brdF (b : Tx) : Bool := decide ((spl 47 b).length ≤ 5) && (spl 47 b).all (rowOk (spl 47 b))
def sum1 (l : List Tx) : Nat := (l.map fun r => r.length + 1).sum
theorem sum1_cons (x : Tx) (l : List Tx) : sum1 (x :: l) = x.length + 1 + sum1 l := by simp [sum1]
theorem spl_sum (b : UInt8) : ∀ s : Tx, sum1 (spl b s) = s.length + 1
  | [] => rfl
  | c :: r => by
    have ih := spl_sum b r
    unfold spl
    split
    · rw [sum1_cons, ih]; simp; omega
    · split
      · rename_i x xs e
        rw [e, sum1_cons] at ih
        rw [sum1_cons]; simp only [List.length_cons]; omega
      · rename_i e; exact absurd e (spl_ne b r)
theorem sum1_mem {l : List Tx} {r : Tx} (h : r ∈ l) : r.length + 1 ≤ sum1 l := by
  induction l with
  | nil => cases h
  | cons x l ih =>
    rw [sum1_cons]
    rcases List.mem_cons.1 h with rfl | h
    · omega
    · have := ih h; omega
theorem sum1_le {l : List Tx} (h : ∀ r ∈ l, r.length ≤ 5) : sum1 l ≤ 6 * l.length := by
  induction l with
  | nil => simp [sum1]
  | cons x l ih =>
    have h1 := h x List.mem_cons_self
    have h2 := ih fun r hr => h r (List.mem_cons_of_mem _ hr)
    rw [sum1_cons, List.length_cons]; omega
theorem line5' {w : Tx} (h : lineOf w 5 = true) : (1 ≤ w.length ∧ w.length ≤ 5) ∧ w.all okCh = true := by
  unfold lineOf at h
  simp only [Bool.and_eq_true, decide_eq_true_eq] at h
  exact ⟨by omega, h.2⟩
theorem brd_rows {b : Tx} (h : brdF b = true) : (spl 47 b).length ≤ 5 ∧ ∀ r ∈ spl 47 b, rowOk (spl 47 b) r = true := by
  unfold brdF at h
  simp only [Bool.and_eq_true, decide_eq_true_eq, List.all_eq_true] at h
  exact h
theorem rowOk_line {L : List Tx} {r : Tx} (h : rowOk L r = true) : ((1 ≤ r.length ∧ r.length ≤ 5) ∧ r.all okCh = true) ∧ r.length = (L.getD 0 []).length := by
  unfold rowOk at h
  simp only [Bool.and_eq_true, decide_eq_true_eq] at h
  exact ⟨line5' h.1, h.2⟩
theorem brd_len {b : Tx} (h : brdF b = true) : b.length ≤ 29 := by
  obtain ⟨h1, h2⟩ := brd_rows h
  have h3 := spl_sum 47 b
  have h4 := sum1_le fun r hr => (rowOk_line (h2 r hr)).1.1.2
  omega

/-! ### The reference's rows -/
def brdL (b : Tx) : List Tx := if brdF b then spl 47 b else []
theorem boRows_spec (b : Tx) (hb : b.length ≤ 1048576) : Spec Tryd.prog 77 [.c (.str b)] [] (isRes [.c (.sl 1001), vb (brdF b)] [(1001, .sl 9 1 (strE (brdL b)))]) := by
  unfold brdL
  by_cases h40 : b.length ≤ 40
  · have h1 := Spec.ren [(1001, 2001)] [(2001, 1001)] (l1Split_spec b 47 (by omega)) rfl rfl rfl
    have hne := spl_ne 47 b
    have hsum : ∀ r ∈ spl 47 b, r.length ≤ 1048576 := fun r hr => by
      have h1 := sum1_mem hr
      rw [spl_sum] at h1
      omega
    have hbr : brdF b = (decide ((spl 47 b).length ≤ 5) && (spl 47 b).all (rowOk (spl 47 b))) := rfl
    rw [hbr]
    generalize spl 47 b = L at *
    have hll := strE_len L
    have h2 := l1In_spec (L.length : Nat) 1 5
    have hpos : 0 < L.length := List.length_pos_iff.2 hne
    rw [← hll] at h2
    by_cases h5 : L.length ≤ 5
    · rw [decide_eq_true (by rw [hll]; omega)] at h2
      rw [decide_eq_true h5, Bool.true_and]
      have g0 : (strE L)[(0 : Int).toNat]? = some [.str (L.getD 0 [])] := by
        rw [show (0 : Int).toNat = 0 from rfl, strE_get hpos, List.getD_eq_getElem?_getD, List.getElem?_eq_getElem hpos]; rfl
      refine Spec.of_wpx tt_ok Tryd.func77 (by kernel_rfl) rfl ?_
      (repeat' ((conv => whnf); first | refine CondVC.t ?_ | refine CondVC.f ?_ | refine CondVC.dec (fun h => ?_) (fun h => ?_) | refine CondVC.ndec (fun h => ?_) (fun h => ?_) | refine CondVC.mk (fun h => ?_) (fun h => ?_) | refine ArVC.i64 (by first | omega | (simp only; omega)) ?_ | refine SideVC.mk (by first | omega | decide | (simp only; omega) | (simp [slS]; done) | (simp [slS]; omega) | (simp only [byteE_len, mvE_len, strE_len, intE_len, esC_len, List.length_cons, List.length_nil, List.length_append, List.length_replicate, List.length_set, Int.toNat_natCast, and_true] at *; omega)) ?_ | refine LoopN.go ?_ | exact trivial | refine AltVC.mk ?_ ?_ | refine HeldVC.mk rfl ?_ | refine CallVC.res [] rfl h1 rfl ?_ | refine CallVC.pure h2 rfl ?_ | refine OpVC.more tt_ok ?_ | refine RestVC.ext tt_ok ?_)); all_goals (conv => whnf)
      all_goals try (exfalso; omega)
      refine LoopVC.mk (G := Nat) (fun k => ⟨[(18, .v (i64 k)), (17, .v (i64 (L.length : Nat))), (16, .v (.c (.sl 2001))), (4, .v (.c (.sl 2001)))], [(2001, .sl 9 1 (strE L))]⟩)
        (fun k => k ≤ L.length ∧ ∀ j (hj : j < L.length), j < k → rowOk L L[j] = true) (fun k => L.length - k) 0 ⟨Nat.zero_le _, fun j hj h => absurd h (Nat.not_lt_zero _)⟩ (Sub.mk [] _ ⟨rfl, by rw [← hll]; rfl, rfl, rfl, trivial⟩ rfl rfl) ?_
      intro k ⟨hk, hkt⟩
      by_cases hkl : k < L.length
      · have gk : (strE L)[(k : Int).toNat]? = some [.str L[k]] := by rw [Int.toNat_natCast]; exact strE_get hkl
        have h3 := liGood_spec L[k] (by have := hsum _ (List.getElem_mem hkl); omega)
        cases hr : rowOk L L[k] with
        | true =>
          obtain ⟨⟨⟨q1, q2⟩, q3⟩, q4⟩ := rowOk_line hr
          have e12 : lineOf L[k] 12 = true := by unfold lineOf; rw [q3, Bool.and_true, decide_eq_true_eq]; omega
          rw [e12] at h3
          have hnx : k + 1 ≤ L.length ∧ ∀ j (hj : j < L.length), j < k + 1 → rowOk L L[j] = true := ⟨hkl, fun j hj hjk => by
            by_cases e : j = k
            · subst e; exact hr
            · exact hkt j hj (by omega)⟩
          generalize L[k] = r at *
          (repeat' ((conv => whnf); first | refine CondVC.t ?_ | refine CondVC.f ?_ | refine CondVC.dec (fun h => ?_) (fun h => ?_) | refine CondVC.ndec (fun h => ?_) (fun h => ?_) | refine CondVC.mk (fun h => ?_) (fun h => ?_) | refine ArVC.i64 (by first | omega | (simp only; omega)) ?_ | refine SideVC.mk (by first | omega | decide | (simp only; omega) | (simp [slS]; done) | (simp [slS]; omega) | (simp only [byteE_len, mvE_len, strE_len, intE_len, esC_len, List.length_cons, List.length_nil, List.length_append, List.length_replicate, List.length_set, Int.toNat_natCast, and_true] at *; omega)) ?_ | refine LoopN.go ?_ | exact trivial | refine AltVC.mk ?_ ?_ | refine HeldVC.mk rfl ?_ | refine LoadVC.mk _ gk ?_ | refine LoadVC.mk _ g0 ?_ | refine CallVC.pure h3 rfl ?_ | refine SideVC.mk (by rw [hll]; omega) ?_ | refine OpVC.more tt_ok ?_ | refine RestVC.ext tt_ok ?_)); all_goals (conv => whnf)
          all_goals first
            | (exfalso; omega)
            | exact ⟨k + 1, hnx, by omega, Sub.mk [] _ ⟨rfl, rfl, rfl, rfl, trivial⟩ rfl rfl⟩
            | (exfalso; simp_all; done)
        | false =>
          have hall : L.all (rowOk L) = false := List.all_eq_false.2 ⟨L[k], List.getElem_mem hkl, by rw [hr]; exact Bool.false_ne_true⟩
          rw [hall, if_neg Bool.false_ne_true]
          have hr2 : lineOf L[k] 12 = true → L[k].length ≤ 5 → L[k].length = (L.getD 0 []).length → False := fun a1 a2 a3 => by
            unfold rowOk at hr
            rw [decide_eq_true a3, Bool.and_true] at hr
            unfold lineOf at a1 hr
            simp only [Bool.and_eq_true, decide_eq_true_eq] at a1
            rw [a1.2, Bool.and_true, decide_eq_false_iff_not] at hr
            omega
          generalize L[k] = r at *
          generalize lineOf r 12 = b12 at *
          cases b12
          all_goals
            (repeat' ((conv => whnf); first | refine CondVC.t ?_ | refine CondVC.f ?_ | refine CondVC.dec (fun h => ?_) (fun h => ?_) | refine CondVC.ndec (fun h => ?_) (fun h => ?_) | refine CondVC.mk (fun h => ?_) (fun h => ?_) | refine ArVC.i64 (by first | omega | (simp only; omega)) ?_ | refine SideVC.mk (by first | omega | decide | (simp only; omega) | (simp [slS]; done) | (simp [slS]; omega) | (simp only [byteE_len, mvE_len, strE_len, intE_len, esC_len, List.length_cons, List.length_nil, List.length_append, List.length_replicate, List.length_set, Int.toNat_natCast, and_true] at *; omega)) ?_ | refine LoopN.go ?_ | exact trivial | refine AltVC.mk ?_ ?_ | refine HeldVC.mk rfl ?_ | refine LoadVC.mk _ gk ?_ | refine LoadVC.mk _ g0 ?_ | refine CallVC.pure h3 rfl ?_ | refine SideVC.mk (by rw [hll]; omega) ?_ | refine OpVC.more tt_ok ?_ | refine RestVC.ext tt_ok ?_)); all_goals (conv => whnf)
            all_goals first
              | exact RetVC.nil 1001 9 1 [.c (.sl 1001), vb false] [(2001, .sl 9 1 (strE L))] rfl rfl rfl (RetVC.res rfl rfl)
              | (exfalso; exact hr2 rfl (by omega) (by omega))
              | (exfalso; omega)
              | (exfalso; simp_all; done)
      · have e : k = L.length := by omega
        have hall : L.all (rowOk L) = true := List.all_eq_true.2 fun x hx => by
          obtain ⟨j, hj, rfl⟩ := List.getElem_of_mem hx
          exact hkt j hj (by omega)
        rw [hall, if_pos rfl]
        (repeat' ((conv => whnf); first | refine CondVC.t ?_ | refine CondVC.f ?_ | refine CondVC.dec (fun h => ?_) (fun h => ?_) | refine CondVC.ndec (fun h => ?_) (fun h => ?_) | refine CondVC.mk (fun h => ?_) (fun h => ?_) | refine ArVC.i64 (by first | omega | (simp only; omega)) ?_ | refine SideVC.mk (by first | omega | decide | (simp only; omega) | (simp [slS]; done) | (simp [slS]; omega) | (simp only [byteE_len, mvE_len, strE_len, intE_len, esC_len, List.length_cons, List.length_nil, List.length_append, List.length_replicate, List.length_set, Int.toNat_natCast, and_true] at *; omega)) ?_ | refine LoopN.go ?_ | exact trivial | refine AltVC.mk ?_ ?_ | refine HeldVC.mk rfl ?_ | refine OpVC.more tt_ok ?_ | refine RestVC.ext tt_ok ?_)); all_goals (conv => whnf)
        all_goals first
          | (exfalso; omega)
          | exact RetVC.ren [(1001, 2001)] [.c (.sl 1001), vb true] [(1001, .sl 9 1 (strE L))] rfl rfl rfl ⟨rfl, rfl⟩
    · rw [decide_eq_false (by rw [hll]; omega)] at h2
      rw [decide_eq_false h5, Bool.false_and, if_neg Bool.false_ne_true]
      refine Spec.of_wpx tt_ok Tryd.func77 (by kernel_rfl) rfl ?_
      (repeat' ((conv => whnf); first | refine CondVC.t ?_ | refine CondVC.f ?_ | refine CondVC.dec (fun h => ?_) (fun h => ?_) | refine CondVC.ndec (fun h => ?_) (fun h => ?_) | refine CondVC.mk (fun h => ?_) (fun h => ?_) | refine ArVC.i64 (by first | omega | (simp only; omega)) ?_ | refine SideVC.mk (by first | omega | decide | (simp only; omega) | (simp [slS]; done) | (simp [slS]; omega) | (simp only [byteE_len, mvE_len, strE_len, intE_len, esC_len, List.length_cons, List.length_nil, List.length_append, List.length_replicate, List.length_set, Int.toNat_natCast, and_true] at *; omega)) ?_ | refine LoopN.go ?_ | exact trivial | refine AltVC.mk ?_ ?_ | refine HeldVC.mk rfl ?_ | refine CallVC.res [] rfl h1 rfl ?_ | refine CallVC.pure h2 rfl ?_ | refine OpVC.more tt_ok ?_ | refine RestVC.ext tt_ok ?_)); all_goals (conv => whnf)
      all_goals first
        | (exfalso; omega)
        | exact RetVC.nil 1001 9 1 [.c (.sl 1001), vb false] [(2001, .sl 9 1 (strE L))] rfl rfl rfl (RetVC.res rfl rfl)
  · have e : brdF b = false := by
      cases h : brdF b with
      | false => rfl
      | true => have := brd_len h; omega
    rw [e, if_neg Bool.false_ne_true]
    refine Spec.of_wpx tt_ok Tryd.func77 (by kernel_rfl) rfl ?_
    (repeat' ((conv => whnf); first | refine CondVC.t ?_ | refine CondVC.f ?_ | refine CondVC.dec (fun h => ?_) (fun h => ?_) | refine CondVC.ndec (fun h => ?_) (fun h => ?_) | refine CondVC.mk (fun h => ?_) (fun h => ?_) | refine ArVC.i64 (by first | omega | (simp only; omega)) ?_ | refine SideVC.mk (by first | omega | decide | (simp only; omega) | (simp [slS]; done) | (simp [slS]; omega) | (simp only [byteE_len, mvE_len, strE_len, intE_len, esC_len, List.length_cons, List.length_nil, List.length_append, List.length_replicate, List.length_set, Int.toNat_natCast, and_true] at *; omega)) ?_ | refine LoopN.go ?_ | exact trivial | refine AltVC.mk ?_ ?_ | refine HeldVC.mk rfl ?_ | refine OpVC.more tt_ok ?_ | refine RestVC.ext tt_ok ?_)); all_goals (conv => whnf)
    all_goals first
      | (exfalso; omega)
      | exact RetVC.nil 1001 9 1 [.c (.sl 1001), vb false] [] rfl rfl rfl (RetVC.res rfl rfl)
end Go.Proofs.YtaidpalamhmghaaDoor.X
