/- FnExactOtherBoard: both functions and the law. No condition beyond the statement's. -/
import Derived.Test.YtaidpalamhmghaaDoorBd
import Derived.Test.YtaidpalamhmghaaDoorMade
namespace Go.Proofs.YtaidpalamhmghaaDoor.X
open Go.Proofs
set_option maxRecDepth 100000
set_option linter.unusedVariables false
set_option linter.unusedSimpArgs false
/-! ### The program's IsBoard -/
theorem badRow_spec (L : List Tx) (r : Tx) (hne : L ≠ []) (hr : r.length ≤ 1048576) : Spec Tryd.prog 122 [.c (.str r), .c (.ptr 1002 0)] [(1000, .sl 9 1 (strE L)), (1002, .box 83 [.sl 1000])]
    (isRes [vb (!rowOk L r)] [(1000, .sl 9 1 (strE L)), (1002, .box 83 [.sl 1000])]) := by
  have h1 := isLineOf_spec r 5 (by omega)
  have hpos : 0 < L.length := List.length_pos_iff.2 hne
  have hll := strE_len L
  have g0 : (strE L)[(0 : Int).toNat]? = some [.str (L.getD 0 [])] := by
    rw [show (0 : Int).toNat = 0 from rfl, strE_get hpos, List.getD_eq_getElem?_getD, List.getElem?_eq_getElem hpos]; rfl
  unfold rowOk
  generalize lineOf r 5 = q at *
  generalize L.getD 0 [] = z at *
  refine Spec.of_wpx tt_ok Tryd.func122 (by kernel_rfl) rfl ?_
  cases q
  · (repeat' ((conv => whnf); first | refine CondVC.t ?_ | refine CondVC.f ?_ | refine CondVC.dec (fun h => ?_) (fun h => ?_) | refine CondVC.ndec (fun h => ?_) (fun h => ?_) | refine CondVC.mk (fun h => ?_) (fun h => ?_) | refine ArVC.i64 (by first | omega | (simp only; omega)) ?_ | refine SideVC.mk (by first | omega | decide | (simp only; omega) | (simp [slS]; done) | (simp [slS]; omega) | (simp only [byteE_len, mvE_len, strE_len, intE_len, esC_len, List.length_cons, List.length_nil, List.length_append, List.length_replicate, List.length_set, Int.toNat_natCast, and_true] at *; omega)) ?_ | refine LoopN.go ?_ | exact trivial | refine AltVC.mk ?_ ?_ | refine HeldVC.mk rfl ?_ | refine CallVC.pure h1 rfl ?_ | refine LoadVC.mk _ g0 ?_ | refine SideVC.mk (by rw [hll]; omega) ?_ | refine OpVC.more tt_ok ?_ | refine RestVC.ext tt_ok ?_)); all_goals (conv => whnf)
    all_goals first | exact RetVC.res rfl rfl | (exfalso; omega) | (exfalso; simp_all; done)
  · by_cases he : r.length = z.length
    · rw [decide_eq_true he]
      (repeat' ((conv => whnf); first | refine CondVC.t ?_ | refine CondVC.f ?_ | refine CondVC.dec (fun h => ?_) (fun h => ?_) | refine CondVC.ndec (fun h => ?_) (fun h => ?_) | refine CondVC.mk (fun h => ?_) (fun h => ?_) | refine ArVC.i64 (by first | omega | (simp only; omega)) ?_ | refine SideVC.mk (by first | omega | decide | (simp only; omega) | (simp [slS]; done) | (simp [slS]; omega) | (simp only [byteE_len, mvE_len, strE_len, intE_len, esC_len, List.length_cons, List.length_nil, List.length_append, List.length_replicate, List.length_set, Int.toNat_natCast, and_true] at *; omega)) ?_ | refine LoopN.go ?_ | exact trivial | refine AltVC.mk ?_ ?_ | refine HeldVC.mk rfl ?_ | refine CallVC.pure h1 rfl ?_ | refine LoadVC.mk _ g0 ?_ | refine SideVC.mk (by rw [hll]; omega) ?_ | refine OpVC.more tt_ok ?_ | refine RestVC.ext tt_ok ?_)); all_goals (conv => whnf)
      all_goals first | exact RetVC.res rfl rfl | (exfalso; omega) | exact RetVC.res (by simp [vb, he]) rfl | exact RetVC.res (by simp [vb]; omega) rfl
    · rw [decide_eq_false he]
      (repeat' ((conv => whnf); first | refine CondVC.t ?_ | refine CondVC.f ?_ | refine CondVC.dec (fun h => ?_) (fun h => ?_) | refine CondVC.ndec (fun h => ?_) (fun h => ?_) | refine CondVC.mk (fun h => ?_) (fun h => ?_) | refine ArVC.i64 (by first | omega | (simp only; omega)) ?_ | refine SideVC.mk (by first | omega | decide | (simp only; omega) | (simp [slS]; done) | (simp [slS]; omega) | (simp only [byteE_len, mvE_len, strE_len, intE_len, esC_len, List.length_cons, List.length_nil, List.length_append, List.length_replicate, List.length_set, Int.toNat_natCast, and_true] at *; omega)) ?_ | refine LoopN.go ?_ | exact trivial | refine AltVC.mk ?_ ?_ | refine HeldVC.mk rfl ?_ | refine CallVC.pure h1 rfl ?_ | refine LoadVC.mk _ g0 ?_ | refine SideVC.mk (by rw [hll]; omega) ?_ | refine OpVC.more tt_ok ?_ | refine RestVC.ext tt_ok ?_)); all_goals (conv => whnf)
      all_goals first | exact RetVC.res rfl rfl | (exfalso; omega) | exact RetVC.res (by simp [vb]; omega) rfl
def idxS (L : List Tx) : Int := if L.findIdx (fun r => !rowOk L r) < L.length then (L.findIdx (fun r => !rowOk L r) : Int) else -1
theorem idxS_all (L : List Tx) : decide (0 ≤ idxS L) = !(L.all (rowOk L)) := by
  unfold idxS
  by_cases h : L.findIdx (fun r => !rowOk L r) < L.length
  · rw [if_pos h]
    have h1 := List.findIdx_getElem (w := h)
    rw [List.all_eq_false.2 ⟨_, List.getElem_mem h, by simpa using h1⟩]
    simp
  · rw [if_neg h]
    have h2 : L.findIdx (fun r => !rowOk L r) = L.length := by have := List.findIdx_le_length (p := fun r => !rowOk L r) (xs := L); omega
    rw [List.findIdx_eq_length] at h2
    have h3 : L.all (rowOk L) = true := List.all_eq_true.2 fun x hx => by simpa using h2 x hx
    rw [h3]; rfl
theorem indexRow_spec (L : List Tx) (hne : L ≠ []) (hl : L.length ≤ 2000000) (hr : ∀ r ∈ L, r.length ≤ 1048576) : Spec Tryd.prog 154 [.c (.sl 1000), .c (.fn 122 [1002])] [(1000, .sl 9 1 (strE L)), (1002, .box 83 [.sl 1000])]
    (isRes [i64 (idxS L)] [(1000, .sl 9 1 (strE L)), (1002, .box 83 [.sl 1000])]) := by
  have hll := strE_len L
  refine Spec.of_wpx tt_ok Tryd.func154 (by kernel_rfl) rfl ?_
  (repeat' ((conv => whnf); first | refine CondVC.t ?_ | refine CondVC.f ?_ | refine CondVC.dec (fun h => ?_) (fun h => ?_) | refine CondVC.ndec (fun h => ?_) (fun h => ?_) | refine CondVC.mk (fun h => ?_) (fun h => ?_) | refine ArVC.i64 (by first | omega | (simp only; omega)) ?_ | refine SideVC.mk (by first | omega | decide | (simp only; omega) | (simp [slS]; done) | (simp [slS]; omega) | (simp only [byteE_len, mvE_len, strE_len, intE_len, esC_len, List.length_cons, List.length_nil, List.length_append, List.length_replicate, List.length_set, Int.toNat_natCast, and_true] at *; omega)) ?_ | refine LoopN.go ?_ | exact trivial | refine AltVC.mk ?_ ?_ | refine HeldVC.mk rfl ?_ | refine OpVC.more tt_ok ?_ | refine RestVC.ext tt_ok ?_)); all_goals (conv => whnf)
  refine LoopVC.mk (G := Nat) (fun k => ⟨[(8, .v (i64 k)), (7, .v (i64 (L.length : Nat))), (4, .v (i64 0)), (1, .v (.c (.fn 122 [1002]))), (0, .v (.c (.sl 1000)))], [(1000, .sl 9 1 (strE L)), (1002, .box 83 [.sl 1000])]⟩)
    (fun k => k ≤ L.length ∧ ∀ j (hj : j < L.length), j < k → rowOk L L[j] = true) (fun k => L.length - k) 0 ⟨Nat.zero_le _, fun j hj h => absurd h (Nat.not_lt_zero _)⟩ (Sub.mk [] [] ⟨rfl, by rw [← hll]; rfl, rfl, rfl, rfl, trivial⟩ rfl rfl) ?_
  intro k ⟨hk, hkt⟩
  by_cases hkl : k < L.length
  · have gk : (strE L)[(k : Int).toNat]? = some [.str L[k]] := by rw [Int.toNat_natCast]; exact strE_get hkl
    have hb := badRow_spec L L[k] hne (hr _ (List.getElem_mem hkl))
    cases hro : rowOk L L[k] with
    | true =>
      rw [hro] at hb
      have hnx : k + 1 ≤ L.length ∧ ∀ j (hj : j < L.length), j < k + 1 → rowOk L L[j] = true := ⟨hkl, fun j hj hjk => by
        by_cases e : j = k
        · subst e; exact hro
        · exact hkt j hj (by omega)⟩
      generalize L[k] = r at *
      (repeat' ((conv => whnf); first | refine CondVC.t ?_ | refine CondVC.f ?_ | refine CondVC.dec (fun h => ?_) (fun h => ?_) | refine CondVC.ndec (fun h => ?_) (fun h => ?_) | refine CondVC.mk (fun h => ?_) (fun h => ?_) | refine ArVC.i64 (by first | omega | (simp only; omega)) ?_ | refine SideVC.mk (by first | omega | decide | (simp only; omega) | (simp [slS]; done) | (simp [slS]; omega) | (simp only [byteE_len, mvE_len, strE_len, intE_len, esC_len, List.length_cons, List.length_nil, List.length_append, List.length_replicate, List.length_set, Int.toNat_natCast, and_true] at *; omega)) ?_ | refine LoopN.go ?_ | exact trivial | refine AltVC.mk ?_ ?_ | refine HeldVC.mk rfl ?_ | refine LoadVC.mk _ gk ?_ | refine CallVC.res [1000, 1002] rfl hb rfl ?_ | refine SideVC.mk (by rw [hll]; omega) ?_ | refine OpVC.more tt_ok ?_ | refine RestVC.ext tt_ok ?_)); all_goals (conv => whnf)
      all_goals first
        | (exfalso; omega)
        | exact ⟨k + 1, hnx, by omega, Sub.mk [] _ ⟨rfl, rfl, rfl, rfl, rfl, trivial⟩ rfl rfl⟩
        | (exfalso; simp_all; done)
    | false =>
      rw [hro] at hb
      have h4 := (List.findIdx_eq (p := fun r => !rowOk L r) hkl).2 ⟨by simp [hro], fun j hj => by simp [hkt j (by omega) hj]⟩
      have hix : idxS L = k := by unfold idxS; rw [h4, if_pos hkl]
      rw [hix]
      generalize L[k] = r at *
      (repeat' ((conv => whnf); first | refine CondVC.t ?_ | refine CondVC.f ?_ | refine CondVC.dec (fun h => ?_) (fun h => ?_) | refine CondVC.ndec (fun h => ?_) (fun h => ?_) | refine CondVC.mk (fun h => ?_) (fun h => ?_) | refine ArVC.i64 (by first | omega | (simp only; omega)) ?_ | refine SideVC.mk (by first | omega | decide | (simp only; omega) | (simp [slS]; done) | (simp [slS]; omega) | (simp only [byteE_len, mvE_len, strE_len, intE_len, esC_len, List.length_cons, List.length_nil, List.length_append, List.length_replicate, List.length_set, Int.toNat_natCast, and_true] at *; omega)) ?_ | refine LoopN.go ?_ | exact trivial | refine AltVC.mk ?_ ?_ | refine HeldVC.mk rfl ?_ | refine LoadVC.mk _ gk ?_ | refine CallVC.res [1000, 1002] rfl hb rfl ?_ | refine SideVC.mk (by rw [hll]; omega) ?_ | refine OpVC.more tt_ok ?_ | refine RestVC.ext tt_ok ?_)); all_goals (conv => whnf)
      all_goals first
        | (exfalso; omega)
        | exact RetVC.res rfl rfl
        | (exfalso; simp_all; done)
  · have e : k = L.length := by omega
    have h4 : L.findIdx (fun r => !rowOk L r) = L.length := List.findIdx_eq_length.2 fun x hx => by
      obtain ⟨j, hj, rfl⟩ := List.getElem_of_mem hx
      simp [hkt j hj (by omega)]
    have hix : idxS L = -1 := by unfold idxS; rw [h4, if_neg (by omega)]
    rw [hix]
    (repeat' ((conv => whnf); first | refine CondVC.t ?_ | refine CondVC.f ?_ | refine CondVC.dec (fun h => ?_) (fun h => ?_) | refine CondVC.ndec (fun h => ?_) (fun h => ?_) | refine CondVC.mk (fun h => ?_) (fun h => ?_) | refine ArVC.i64 (by first | omega | (simp only; omega)) ?_ | refine SideVC.mk (by first | omega | decide | (simp only; omega) | (simp [slS]; done) | (simp [slS]; omega) | (simp only [byteE_len, mvE_len, strE_len, intE_len, esC_len, List.length_cons, List.length_nil, List.length_append, List.length_replicate, List.length_set, Int.toNat_natCast, and_true] at *; omega)) ?_ | refine LoopN.go ?_ | exact trivial | refine AltVC.mk ?_ ?_ | refine HeldVC.mk rfl ?_ | refine OpVC.more tt_ok ?_ | refine RestVC.ext tt_ok ?_)); all_goals (conv => whnf)
    all_goals first
      | (exfalso; omega)
      | exact RetVC.res rfl rfl
theorem containsRow_spec (L : List Tx) (hne : L ≠ []) (hl : L.length ≤ 2000000) (hr : ∀ r ∈ L, r.length ≤ 1048576) : Spec Tryd.prog 121 [.c (.sl 1000), .c (.fn 122 [1002])] [(1000, .sl 9 1 (strE L)), (1002, .box 83 [.sl 1000])]
    (isRes [vb (!(L.all (rowOk L)))] [(1000, .sl 9 1 (strE L)), (1002, .box 83 [.sl 1000])]) := by
  have h1 := indexRow_spec L hne hl hr
  rw [← idxS_all]
  refine Spec.of_wpx tt_ok Tryd.func121 (by kernel_rfl) rfl ?_
  (repeat' ((conv => whnf); first | refine CondVC.t ?_ | refine CondVC.f ?_ | refine CondVC.dec (fun h => ?_) (fun h => ?_) | refine CondVC.ndec (fun h => ?_) (fun h => ?_) | refine CondVC.mk (fun h => ?_) (fun h => ?_) | refine ArVC.i64 (by first | omega | (simp only; omega)) ?_ | refine SideVC.mk (by first | omega | decide | (simp only; omega) | (simp [slS]; done) | (simp [slS]; omega) | (simp only [byteE_len, mvE_len, strE_len, intE_len, esC_len, List.length_cons, List.length_nil, List.length_append, List.length_replicate, List.length_set, Int.toNat_natCast, and_true] at *; omega)) ?_ | refine LoopN.go ?_ | exact trivial | refine AltVC.mk ?_ ?_ | refine HeldVC.mk rfl ?_ | refine CallVC.res [1000, 1002] rfl h1 rfl ?_ | refine OpVC.more tt_ok ?_ | refine RestVC.ext tt_ok ?_)); all_goals (conv => whnf)
  all_goals exact RetVC.res rfl rfl
theorem implIsBoard_spec (b : Tx) (hb : b.length ≤ 1048576) : Spec Tryd.prog 80 [.c (.str b)] [] (isRes [vb (brdF b)] []) := by
  by_cases h30 : b.length ≤ 30
  · have h1 := Spec.ren [(1001, 2001)] [(2001, 1001)] (split_spec b 47 (by omega)) rfl rfl rfl
    have hne := spl_ne 47 b
    have hsum : ∀ r ∈ spl 47 b, r.length ≤ 1048576 := fun r hr => by
      have h1 := sum1_mem hr
      rw [spl_sum] at h1
      omega
    have hbr : brdF b = (decide ((spl 47 b).length ≤ 5) && (spl 47 b).all (rowOk (spl 47 b))) := rfl
    have hcl : (spl 47 b).length ≤ 2000000 := by rw [spl_len]; have : b.count 47 ≤ b.length := List.count_le_length; omega
    rw [hbr]
    generalize spl 47 b = L at *
    have hll := strE_len L
    have h2 := Spec.ren [(1000, 2001), (1002, 3)] [(2001, 1000), (3, 1002)] (containsRow_spec L hne hcl hsum) rfl rfl rfl
    by_cases h5 : L.length ≤ 5
    · rw [decide_eq_true h5, Bool.true_and]
      generalize L.all (rowOk L) = q at *
      refine Spec.of_wpx tt_ok Tryd.func80 (by kernel_rfl) rfl ?_
      (repeat' ((conv => whnf); first | refine CondVC.t ?_ | refine CondVC.f ?_ | refine CondVC.dec (fun h => ?_) (fun h => ?_) | refine CondVC.ndec (fun h => ?_) (fun h => ?_) | refine CondVC.mk (fun h => ?_) (fun h => ?_) | refine ArVC.i64 (by first | omega | (simp only; omega)) ?_ | refine SideVC.mk (by first | omega | decide | (simp only; omega) | (simp [slS]; done) | (simp [slS]; omega) | (simp only [byteE_len, mvE_len, strE_len, intE_len, esC_len, List.length_cons, List.length_nil, List.length_append, List.length_replicate, List.length_set, Int.toNat_natCast, and_true] at *; omega)) ?_ | refine LoopN.go ?_ | exact trivial | refine AltVC.mk ?_ ?_ | refine HeldVC.mk rfl ?_ | refine CallVC.res [] rfl h1 rfl ?_ | refine CallVC.res [2001, 3] rfl h2 rfl ?_ | refine OpVC.more tt_ok ?_ | refine RestVC.ext tt_ok ?_)); all_goals (conv => whnf)
      all_goals first
        | (exfalso; omega)
        | exact RetVC.res (by simp [vb]) rfl
    · rw [decide_eq_false h5, Bool.false_and]
      refine Spec.of_wpx tt_ok Tryd.func80 (by kernel_rfl) rfl ?_
      (repeat' ((conv => whnf); first | refine CondVC.t ?_ | refine CondVC.f ?_ | refine CondVC.dec (fun h => ?_) (fun h => ?_) | refine CondVC.ndec (fun h => ?_) (fun h => ?_) | refine CondVC.mk (fun h => ?_) (fun h => ?_) | refine ArVC.i64 (by first | omega | (simp only; omega)) ?_ | refine SideVC.mk (by first | omega | decide | (simp only; omega) | (simp [slS]; done) | (simp [slS]; omega) | (simp only [byteE_len, mvE_len, strE_len, intE_len, esC_len, List.length_cons, List.length_nil, List.length_append, List.length_replicate, List.length_set, Int.toNat_natCast, and_true] at *; omega)) ?_ | refine LoopN.go ?_ | exact trivial | refine AltVC.mk ?_ ?_ | refine HeldVC.mk rfl ?_ | refine CallVC.res [] rfl h1 rfl ?_ | refine CallVC.res [2001, 3] rfl h2 rfl ?_ | refine OpVC.more tt_ok ?_ | refine RestVC.ext tt_ok ?_)); all_goals (conv => whnf)
      all_goals first
        | (exfalso; omega)
        | exact RetVC.res rfl rfl
  · have e : brdF b = false := by
      cases h : brdF b with
      | false => rfl
      | true => have := brd_len h; omega
    rw [e]
    refine Spec.of_wpx tt_ok Tryd.func80 (by kernel_rfl) rfl ?_
    (repeat' ((conv => whnf); first | refine CondVC.t ?_ | refine CondVC.f ?_ | refine CondVC.dec (fun h => ?_) (fun h => ?_) | refine CondVC.ndec (fun h => ?_) (fun h => ?_) | refine CondVC.mk (fun h => ?_) (fun h => ?_) | refine ArVC.i64 (by first | omega | (simp only; omega)) ?_ | refine SideVC.mk (by first | omega | decide | (simp only; omega) | (simp [slS]; done) | (simp [slS]; omega) | (simp only [byteE_len, mvE_len, strE_len, intE_len, esC_len, List.length_cons, List.length_nil, List.length_append, List.length_replicate, List.length_set, Int.toNat_natCast, and_true] at *; omega)) ?_ | refine LoopN.go ?_ | exact trivial | refine AltVC.mk ?_ ?_ | refine HeldVC.mk rfl ?_ | refine OpVC.more tt_ok ?_ | refine RestVC.ext tt_ok ?_)); all_goals (conv => whnf)
    all_goals first
      | (exfalso; omega)
      | exact RetVC.res rfl rfl

/-! ### Joined again -/
def jnB : List Tx → Tx
  | [] => []
  | x :: r => x ++ (r.map fun y => 47 :: y).flatten
theorem jnB_cons {x y : Tx} {r : List Tx} : jnB (x :: y :: r) = x ++ 47 :: jnB (y :: r) := by simp [jnB]
theorem jnB_spl : ∀ s : Tx, jnB (spl 47 s) = s
  | [] => rfl
  | c :: r => by
    have ih := jnB_spl r
    unfold spl
    split
    · rename_i h
      cases hs : spl 47 r with
      | nil => exact absurd hs (spl_ne 47 r)
      | cons x xs =>
        rw [hs] at ih
        rw [jnB_cons, ih, h]; rfl
    · split
      · rename_i x xs e
        rw [e] at ih
        show c :: (x ++ (xs.map fun y => 47 :: y).flatten) = c :: r
        rw [← ih]; rfl
      · rename_i e; exact absurd e (spl_ne 47 r)
theorem jnB_app {l : List Tx} (x : Tx) (h : l ≠ []) : jnB (l ++ [x]) = jnB l ++ 47 :: x := by
  cases l with
  | nil => exact absurd rfl h
  | cons y r => simp [jnB]
theorem turned_jnB : ∀ l : List Tx, turnedF (jnB l) = jnB (l.reverse.map turnedF)
  | [] => rfl
  | [x] => by simp [jnB]
  | x :: y :: r => by
    have ih := turned_jnB (y :: r)
    rw [jnB_cons, List.reverse_cons, List.map_append, List.map_cons, List.map_nil, jnB_app _ (by simp), ← ih]
    unfold turnedF
    simp [otherF]
theorem join_jnB (l : List Tx) : Lib.join l [47] = jnB l := by
  cases l with
  | nil => rfl
  | cons x r => rw [Lib.join_cons]; unfold Lib.joinTail; rfl

/-! ### Both functions -/
end Go.Proofs.YtaidpalamhmghaaDoor.X
