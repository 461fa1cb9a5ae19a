/- All exchanges: the law. No condition beyond each statement's. -/
import Derived.Test.YtblihaicbhdbdaaAll
namespace Go.Proofs.Ytblihaicbhdbdaa.X
open Go.Proofs
set_option maxRecDepth 100000
set_option linter.unusedVariables false
set_option linter.unusedSimpArgs false

def xsOk (x y z : Int) : Bool := numsF x y z 8 && decide (countXF x y z ≤ 200)
def xsL (x y z : Int) : List (List Mv) := if xsOk x y z then allX (lastF (firstF x.toNat y.toNat z.toNat)) (firstF x.toNat y.toNat z.toNat) else []
theorem xsL_few (x y z : Int) : (xsL x y z).length ≤ 200 ∧ ∀ l ∈ xsL x y z, l.length ≤ 64 := by
  unfold xsL
  split
  · rename_i h
    unfold xsOk at h
    simp only [Bool.and_eq_true, decide_eq_true_eq] at h
    obtain ⟨hn, hc⟩ := h
    unfold countXF at hc
    rw [hn, if_pos rfl] at hc
    obtain ⟨a, b, c, rfl, rfl, rfl, hge, hle⟩ := nums_cast hn
    simp only [Int.toNat_natCast] at hc ⊢
    have hl := firstF_len a b c
    rw [wp_few (by omega)] at hc
    refine ⟨by rw [allX_len _ _ _ (Nat.lt_succ_self _)]; omega, fun l hl' => ?_⟩
    have h1 := allX_each _ _ _ (Nat.lt_succ_self _) l hl'
    have h2 := wayF_le (firstF a b c)
    have h3 : (firstF a b c).length * (firstF a b c).length ≤ 8 * 8 := Nat.mul_le_mul (by omega) (by omega)
    omega
  · simp
theorem implAllExchanges_spec (x y z : Int) : Spec Try.prog 13 [i64 x, i64 y, i64 z] []
    (isRes [.c (.sl 1001), vb (xsOk x y z)] [(1001, .ext (.nest 33 66 2 (exE [] (xsL x y z)) []))]) := by
  have h1 := implCountExchanges_spec x y z
  unfold xsL xsOk
  refine Spec.of_wpx tt_ok Try.func13 (by kernel_rfl) rfl ?_
  cases hn : numsF x y z 8 with
  | false =>
    rw [hn] at h1
    rw [Bool.false_and, if_neg Bool.false_ne_true]
    generalize countXF x y z = q at *
    (repeat' ((conv => whnf); first | refine CondVC.t ?_ | refine CondVC.f ?_ | refine CondVC.dec (fun h => ?_) (fun h => ?_) | refine CondVC.ndec (fun h => ?_) (fun h => ?_) | refine CondVC.mk (fun h => ?_) (fun h => ?_) | refine ArVC.i64 (by first | omega | (simp only; omega)) ?_ | refine SideVC.mk (by first | omega | decide | (simp only; omega) | (simp [slS]; done) | (simp [slS]; omega) | (simp only [byteE_len, mvE_len, strE_len, intE_len, esC_len, List.length_cons, List.length_nil, List.length_append, List.length_replicate, List.length_set, Int.toNat_natCast, and_true] at *; omega)) ?_ | refine LoopN.go ?_ | exact trivial | refine AltVC.mk ?_ ?_ | refine HeldVC.mk rfl ?_ | refine CallVC.pure h1 rfl ?_ | refine OpVC.more tt_ok ?_ | refine RestVC.ext tt_ok ?_)); all_goals (conv => whnf)
    all_goals exact RetVC.nil 1001 33 1 [.c (.sl 1001), vb false] [] rfl rfl rfl (RetVC.toNest 1001 66 2 rfl (RetVC.res rfl rfl))
  | true =>
    rw [hn] at h1
    rw [Bool.true_and]
    obtain ⟨a, b, c, rfl, rfl, rfl, hge, hle⟩ := nums_cast hn
    simp only [Int.toNat_natCast]
    have hl := firstF_len a b c
    have hcx : countXF a b c = (playsF (lastF (firstF a b c)) (firstF a b c) : Nat) := by
      unfold countXF
      rw [hn, if_pos rfl]
      simp only [Int.toNat_natCast]
      exact wp_few (by omega)
    have h2 := Spec.renE [(1000, 2000)] [(2000, 1000)] (swapOf_spec a b c ⟨hge, by omega⟩) (fun _ => rfl) (fun _ => rfl) rfl
    rw [wp_few (by omega)] at h2
    rw [hcx] at h1 ⊢
    have hw2 := wayF_le (firstF a b c)
    have hw3 : (firstF a b c).length * (firstF a b c).length ≤ 8 * 8 := Nat.mul_le_mul (by omega) (by omega)
    have h3 := fun es hes (hq : playsF (lastF (firstF a b c)) (firstF a b c) ≤ 200) => play_spec (lastF (firstF a b c)) _ (firstF a b c) (Nat.lt_succ_self _) (by omega) [] [] es hes (by simp only [List.length_nil]; omega) (by simp only [List.length_nil]; omega)
    have hx0 : playsF (lastF (firstF a b c)) (firstF a b c) = 0 → allX (lastF (firstF a b c)) (firstF a b c) = [] := fun h => allX_none h
    unfold pxM pxR pxB at h3
    generalize allX (lastF (firstF a b c)) (firstF a b c) = L at *
    generalize playsF (lastF (firstF a b c)) (firstF a b c) = q at *
    generalize lastF (firstF a b c) = g at *
    generalize firstF a b c = w at *
    by_cases hq : (q : Int) ≤ 200
    · rw [if_pos (decide_eq_true hq), decide_eq_true hq]
      have h3 := fun es hes => Spec.renE [(1003, 11), (1000, 2000), (1004, 13), (1005, 36), (1006, 14), (1001, 41), (1015, 3015)] [(11, 1003), (2000, 1000), (13, 1004), (36, 1005), (14, 1006), (41, 1001), (3015, 1015)] (h3 es hes (by omega)) (fun _ => rfl) (fun _ => rfl) rfl
      by_cases hp : 0 < q
      · rw [decide_eq_true (by omega : (0 : Int) < (q : Nat))] at h2
        (repeat' ((conv => whnf); first | refine CondVC.t ?_ | refine CondVC.f ?_ | refine CondVC.dec (fun h => ?_) (fun h => ?_) | refine CondVC.ndec (fun h => ?_) (fun h => ?_) | refine CondVC.mk (fun h => ?_) (fun h => ?_) | refine ArVC.i64 (by first | omega | (simp only; omega)) ?_ | refine SideVC.mk (by first | omega | decide | (simp only; omega) | (simp [slS]; done) | (simp [slS]; omega) | (simp only [byteE_len, mvE_len, strE_len, intE_len, esC_len, List.length_cons, List.length_nil, List.length_append, List.length_replicate, List.length_set, Int.toNat_natCast, and_true] at *; omega)) ?_ | refine LoopN.go ?_ | exact trivial | refine AltVC.mk ?_ ?_ | refine HeldVC.mk rfl ?_ | refine CallVC.pure h1 rfl ?_ | (refine CallVC.ex [] rfl h2 ?_; intro es1 hes1; refine ⟨rfl, ?_⟩; have h4 := h3 es1 hes1) | (refine CallVC.toNest 36 66 2 rfl ?_; refine CallVC.ex [11, 2000, 13, 36, 14, 41] rfl h4 ?_; intro es2 hes2; refine ⟨rfl, ?_⟩) | refine OpVC.more tt_ok ?_ | refine RestVC.ext tt_ok ?_)); all_goals (conv => whnf)
        all_goals first
          | (exfalso; omega)
          | exact RetVC.ren [(1001, 3015)] [.c (.sl 1001), vb true] [(1001, .ext (.nest 33 66 2 ([] ++ exE [] L) []))] rfl rfl rfl ⟨rfl, rfl⟩
      · have hx0 := hx0 (by omega)
        rw [decide_eq_false (by omega : ¬ (0 : Int) < (q : Nat))] at h2
        rw [hx0]
        (repeat' ((conv => whnf); first | refine CondVC.t ?_ | refine CondVC.f ?_ | refine CondVC.dec (fun h => ?_) (fun h => ?_) | refine CondVC.ndec (fun h => ?_) (fun h => ?_) | refine CondVC.mk (fun h => ?_) (fun h => ?_) | refine ArVC.i64 (by first | omega | (simp only; omega)) ?_ | refine SideVC.mk (by first | omega | decide | (simp only; omega) | (simp [slS]; done) | (simp [slS]; omega) | (simp only [byteE_len, mvE_len, strE_len, intE_len, esC_len, List.length_cons, List.length_nil, List.length_append, List.length_replicate, List.length_set, Int.toNat_natCast, and_true] at *; omega)) ?_ | refine LoopN.go ?_ | exact trivial | refine AltVC.mk ?_ ?_ | refine HeldVC.mk rfl ?_ | refine CallVC.pure h1 rfl ?_ | (refine CallVC.ex [] rfl h2 ?_; intro es1 hes1; refine ⟨rfl, ?_⟩) | refine OpVC.more tt_ok ?_ | refine RestVC.ext tt_ok ?_)); all_goals (conv => whnf)
        all_goals first
          | (exfalso; omega)
          | exact RetVC.toNest 36 66 2 rfl (RetVC.ren [(1001, 36)] [.c (.sl 1001), vb true] [(1001, .ext (.nest 33 66 2 [] []))] rfl rfl rfl ⟨rfl, rfl⟩)
    · rw [if_neg (by rw [decide_eq_false hq]; exact Bool.false_ne_true), decide_eq_false hq]
      (repeat' ((conv => whnf); first | refine CondVC.t ?_ | refine CondVC.f ?_ | refine CondVC.dec (fun h => ?_) (fun h => ?_) | refine CondVC.ndec (fun h => ?_) (fun h => ?_) | refine CondVC.mk (fun h => ?_) (fun h => ?_) | refine ArVC.i64 (by first | omega | (simp only; omega)) ?_ | refine SideVC.mk (by first | omega | decide | (simp only; omega) | (simp [slS]; done) | (simp [slS]; omega) | (simp only [byteE_len, mvE_len, strE_len, intE_len, esC_len, List.length_cons, List.length_nil, List.length_append, List.length_replicate, List.length_set, Int.toNat_natCast, and_true] at *; omega)) ?_ | refine LoopN.go ?_ | exact trivial | refine AltVC.mk ?_ ?_ | refine HeldVC.mk rfl ?_ | refine CallVC.pure h1 rfl ?_ | refine OpVC.more tt_ok ?_ | refine RestVC.ext tt_ok ?_)); all_goals (conv => whnf)
      all_goals first
        | (exfalso; omega)
        | exact RetVC.nil 1001 33 1 [.c (.sl 1001), vb false] [] rfl rfl rfl (RetVC.toNest 1001 66 2 rfl (RetVC.res rfl rfl))
theorem specAllExchanges_spec (x y z : Int) : Spec Try.prog 12 [i64 x, i64 y, i64 z] []
    (isRes [.c (.sl 1001), vb (xsOk x y z)] [(1001, .ext (.nest 33 66 2 (exE [] (xsL x y z)) []))]) := by
  have h1 := swNumbers_spec x y z
  unfold xsL xsOk
  refine Spec.of_wpx tt_ok Try.func12 (by kernel_rfl) rfl ?_
  cases hn : numsF x y z 8 with
  | false =>
    rw [hn] at h1
    rw [Bool.false_and, if_neg Bool.false_ne_true]
    (repeat' ((conv => whnf); first | refine CondVC.t ?_ | refine CondVC.f ?_ | refine CondVC.dec (fun h => ?_) (fun h => ?_) | refine CondVC.ndec (fun h => ?_) (fun h => ?_) | refine CondVC.mk (fun h => ?_) (fun h => ?_) | refine ArVC.i64 (by first | omega | (simp only; omega)) ?_ | refine SideVC.mk (by first | omega | decide | (simp only; omega) | (simp [slS]; done) | (simp [slS]; omega) | (simp only [byteE_len, mvE_len, strE_len, intE_len, esC_len, List.length_cons, List.length_nil, List.length_append, List.length_replicate, List.length_set, Int.toNat_natCast, and_true] at *; omega)) ?_ | refine LoopN.go ?_ | exact trivial | refine AltVC.mk ?_ ?_ | refine HeldVC.mk rfl ?_ | refine CallVC.pure h1 rfl ?_ | refine OpVC.more tt_ok ?_ | refine RestVC.ext tt_ok ?_)); all_goals (conv => whnf)
    all_goals exact RetVC.nil 1001 33 1 [.c (.sl 1001), vb false] [] rfl rfl rfl (RetVC.toNest 1001 66 2 rfl (RetVC.res rfl rfl))
  | true =>
    rw [hn] at h1
    rw [Bool.true_and]
    obtain ⟨a, b, c, rfl, rfl, rfl, hge, hle⟩ := nums_cast hn
    simp only [Int.toNat_natCast]
    have hl := firstF_len a b c
    have hok := firstF_ok a b c
    have hcx : countXF a b c = (playsF (lastF (firstF a b c)) (firstF a b c) : Nat) := by
      unfold countXF
      rw [hn, if_pos rfl]
      simp only [Int.toNat_natCast]
      exact wp_few (by omega)
    have h2 := liFirst_spec a b c (by omega) (by omega) (by omega)
    have h5 := fun x hx => ends_all (firstF a b c) (by omega) hok x hx
    rw [wp_few (by omega)] at h5
    rw [hcx]
    have hw2 := wayF_le (firstF a b c)
    have hw3 : (firstF a b c).length * (firstF a b c).length ≤ 8 * 8 := Nat.mul_le_mul (by omega) (by omega)
    have h3 := fun x hx (hq : playsF (lastF (firstF a b c)) (firstF a b c) ≤ 200) => swList_spec (lastF (firstF a b c)) _ (firstF a b c) (Nat.lt_succ_self _) (by omega) hok rfl [] [] x hx (by simp only [List.length_nil]; omega) (by simp only [List.length_nil]; omega)
    have hx0 : playsF (lastF (firstF a b c)) (firstF a b c) = 0 → allX (lastF (firstF a b c)) (firstF a b c) = [] := fun h => allX_none h
    unfold sxM sxR at h3
    unfold enM enR at h5
    generalize allX (lastF (firstF a b c)) (firstF a b c) = L at *
    generalize playsF (lastF (firstF a b c)) (firstF a b c) = q at *
    generalize lastF (firstF a b c) = g at *
    generalize firstF a b c = w at *
    have h51 := Spec.renE [(1000, 17), (1001, 2001), (1002, 2002), (1011, 3011), (1012, 3012)] [(17, 1000), (2001, 1001), (2002, 1002), (3011, 1011), (3012, 1012)] (h5 _ okEn_nil) (fun _ => rfl) (fun _ => rfl) rfl
    have h52 := fun x hx => Spec.renE [(1000, 17), (1001, 3011), (1002, 3012), (1011, 4011), (1012, 4012)] [(17, 1000), (3011, 1001), (3012, 1002), (4011, 1011), (4012, 1012)] (h5 x hx) (fun _ => rfl) (fun _ => rfl) rfl
    have h3 := fun x hx hq => Spec.renE [(1000, 17), (1001, 4011), (1002, 4012), (1003, 32), (1004, 10), (1005, 2005), (1011, 5011), (1012, 5012), (1015, 5015)] [(17, 1000), (4011, 1001), (4012, 1002), (32, 1003), (10, 1004), (2005, 1005), (5011, 1011), (5012, 1012), (5015, 1015)] (h3 x hx hq) (fun _ => rfl) (fun _ => rfl) rfl
    by_cases hq : (q : Int) ≤ 200
    · rw [if_pos (decide_eq_true hq), decide_eq_true hq]
      have h3 := fun x hx => h3 x hx (by omega)
      by_cases hp : 0 < q
      · (repeat' ((conv => whnf); first | refine CondVC.t ?_ | refine CondVC.f ?_ | refine CondVC.dec (fun h => ?_) (fun h => ?_) | refine CondVC.ndec (fun h => ?_) (fun h => ?_) | refine CondVC.mk (fun h => ?_) (fun h => ?_) | refine ArVC.i64 (by first | omega | (simp only; omega)) ?_ | refine SideVC.mk (by first | omega | decide | (simp only; omega) | (simp [slS]; done) | (simp [slS]; omega) | (simp only [byteE_len, mvE_len, strE_len, intE_len, esC_len, List.length_cons, List.length_nil, List.length_append, List.length_replicate, List.length_set, Int.toNat_natCast, and_true] at *; omega)) ?_ | refine LoopN.go ?_ | exact trivial | refine AltVC.mk ?_ ?_ | refine HeldVC.mk rfl ?_ | refine CallVC.pure h1 rfl ?_ | refine CallVC.pure h2 rfl ?_ | (refine CallVC.nil 2001 9 1 [.c (.ptr 17 0), .c (.str w)] [(17, .box 48 [.sl 2001, .val (.slice none 0 0)])] rfl rfl rfl ?_; refine CallVC.nil 2002 3 1 [.c (.ptr 17 0), .c (.str w)] [(2001, .sl 9 1 []), (17, .box 48 [.sl 2001, .sl 2002])] rfl rfl rfl ?_; refine CallVC.ex [17, 2001, 2002] rfl h51 ?_; intro x1 hx1; refine ⟨rfl, ?_⟩; have h52 := h52 x1 hx1.1) | (refine CallVC.ex [17, 3011, 3012] rfl h52 ?_; intro x2 hx2; refine ⟨rfl, ?_⟩; have h3 := h3 x2 hx2.1) | (refine CallVC.nil 2005 33 1 [.c (.ptr 17 0), .c (.str w), .c (.sl 32), .c (.ptr 10 0)] [(32, .sl 66 2 []), (17, .box 48 [.sl 4011, .sl 4012]), (4011, .sl 9 1 (strE x2.1)), (4012, .sl 3 1 (intE x2.2)), (10, .box 28 [.sl 2005])] rfl rfl rfl ?_; refine CallVC.toNest 2005 66 2 rfl ?_; refine CallVC.ex [17, 4011, 4012, 32, 10, 2005] rfl h3 ?_; intro x3 hx3; refine ⟨rfl, ?_⟩) | refine OpVC.more tt_ok ?_ | refine RestVC.ext tt_ok ?_)); all_goals (conv => whnf)
        all_goals first
          | (exfalso; omega)
          | exact RetVC.ren [(1001, 5015)] [.c (.sl 1001), vb true] [(1001, .ext (.nest 33 66 2 ([] ++ exE [] L) []))] rfl rfl rfl ⟨rfl, rfl⟩
      · have hx0 := hx0 (by omega)
        rw [hx0]
        (repeat' ((conv => whnf); first | refine CondVC.t ?_ | refine CondVC.f ?_ | refine CondVC.dec (fun h => ?_) (fun h => ?_) | refine CondVC.ndec (fun h => ?_) (fun h => ?_) | refine CondVC.mk (fun h => ?_) (fun h => ?_) | refine ArVC.i64 (by first | omega | (simp only; omega)) ?_ | refine SideVC.mk (by first | omega | decide | (simp only; omega) | (simp [slS]; done) | (simp [slS]; omega) | (simp only [byteE_len, mvE_len, strE_len, intE_len, esC_len, List.length_cons, List.length_nil, List.length_append, List.length_replicate, List.length_set, Int.toNat_natCast, and_true] at *; omega)) ?_ | refine LoopN.go ?_ | exact trivial | refine AltVC.mk ?_ ?_ | refine HeldVC.mk rfl ?_ | refine CallVC.pure h1 rfl ?_ | refine CallVC.pure h2 rfl ?_ | (refine CallVC.nil 2001 9 1 [.c (.ptr 17 0), .c (.str w)] [(17, .box 48 [.sl 2001, .val (.slice none 0 0)])] rfl rfl rfl ?_; refine CallVC.nil 2002 3 1 [.c (.ptr 17 0), .c (.str w)] [(2001, .sl 9 1 []), (17, .box 48 [.sl 2001, .sl 2002])] rfl rfl rfl ?_; refine CallVC.ex [17, 2001, 2002] rfl h51 ?_; intro x1 hx1; refine ⟨rfl, ?_⟩; have h52 := h52 x1 hx1.1) | (refine CallVC.ex [17, 3011, 3012] rfl h52 ?_; intro x2 hx2; refine ⟨rfl, ?_⟩; have h3 := h3 x2 hx2.1) | refine OpVC.more tt_ok ?_ | refine RestVC.ext tt_ok ?_)); all_goals (conv => whnf)
        all_goals first
          | (exfalso; omega)
          | exact RetVC.nil 1001 33 1 [.c (.sl 1001), vb true] [(17, .box 48 [.sl 4011, .sl 4012]), (4011, .sl 9 1 (strE x2.1)), (4012, .sl 3 1 (intE x2.2)), (10, .box 28 [.val (.slice none 0 0)])] rfl rfl rfl (RetVC.toNest 1001 66 2 rfl (RetVC.res rfl rfl))
    · rw [if_neg (by rw [decide_eq_false hq]; exact Bool.false_ne_true), decide_eq_false hq]
      (repeat' ((conv => whnf); first | refine CondVC.t ?_ | refine CondVC.f ?_ | refine CondVC.dec (fun h => ?_) (fun h => ?_) | refine CondVC.ndec (fun h => ?_) (fun h => ?_) | refine CondVC.mk (fun h => ?_) (fun h => ?_) | refine ArVC.i64 (by first | omega | (simp only; omega)) ?_ | refine SideVC.mk (by first | omega | decide | (simp only; omega) | (simp [slS]; done) | (simp [slS]; omega) | (simp only [byteE_len, mvE_len, strE_len, intE_len, esC_len, List.length_cons, List.length_nil, List.length_append, List.length_replicate, List.length_set, Int.toNat_natCast, and_true] at *; omega)) ?_ | refine LoopN.go ?_ | exact trivial | refine AltVC.mk ?_ ?_ | refine HeldVC.mk rfl ?_ | refine CallVC.pure h1 rfl ?_ | refine CallVC.pure h2 rfl ?_ | (refine CallVC.nil 2001 9 1 [.c (.ptr 17 0), .c (.str w)] [(17, .box 48 [.sl 2001, .val (.slice none 0 0)])] rfl rfl rfl ?_; refine CallVC.nil 2002 3 1 [.c (.ptr 17 0), .c (.str w)] [(2001, .sl 9 1 []), (17, .box 48 [.sl 2001, .sl 2002])] rfl rfl rfl ?_; refine CallVC.ex [17, 2001, 2002] rfl h51 ?_; intro x1 hx1; refine ⟨rfl, ?_⟩; have h52 := h52 x1 hx1.1) | refine OpVC.more tt_ok ?_ | refine RestVC.ext tt_ok ?_)); all_goals (conv => whnf)
      all_goals first
        | (exfalso; omega)
        | exact RetVC.nil 1001 33 1 [.c (.sl 1001), vb false] [(17, .box 48 [.sl 3011, .sl 3012]), (3011, .sl 9 1 (strE x1.1)), (3012, .sl 3 1 (intE x1.2))] rfl rfl rfl (RetVC.toNest 1001 66 2 rfl (RetVC.res rfl rfl))

/-! ### Rows of rows compared, marked and looked at again -/
theorem exE_get {L : List (List Mv)} {i : Nat} (h : i < L.length) : (exE [] L)[i]? = some (mvE L[i]) := by simp [exE, h]
theorem eqSS_self (L : List (List Mv)) (h1 : L.length ≤ 1000) (h2 : ∀ l ∈ L, l.length ≤ 1000) : Spec Try.prog 14 [.c (.sl 1000), .c (.sl 1001)]
    [(1000, .ext (.nest 33 66 2 (exE [] L) [])), (1001, .ext (.nest 33 66 2 (exE [] L) []))]
    (isRes [vb true] [(1000, .ext (.nest 33 66 2 (exE [] L) [])), (1001, .ext (.nest 33 66 2 (exE [] L) []))]) := by
  have hll := exE_len [] L
  have hg : ∀ i (h : i < L.length), (exE [] L)[i]? = some (mvE L[i]) := fun i h => exE_get h
  generalize exE [] L = ne at *
  refine Spec.of_wpx tt_ok Try.func14 (by kernel_rfl) rfl ?_
  (repeat' ((conv => whnf); first | refine CondVC.t ?_ | refine CondVC.f ?_ | refine CondVC.dec (fun h => ?_) (fun h => ?_) | refine CondVC.ndec (fun h => ?_) (fun h => ?_) | refine CondVC.mk (fun h => ?_) (fun h => ?_) | refine ArVC.i64 (by first | omega | (simp only; omega)) ?_ | refine SideVC.mk (by first | omega | decide | (simp only; omega) | (simp [slS]; done) | (simp [slS]; omega) | (simp only [byteE_len, mvE_len, strE_len, intE_len, esC_len, List.length_cons, List.length_nil, List.length_append, List.length_replicate, List.length_set, Int.toNat_natCast, and_true] at *; omega)) ?_ | refine LoopN.go ?_ | exact trivial | refine AltVC.mk ?_ ?_ | refine HeldVC.mk rfl ?_ | refine OpVC.more tt_ok ?_ | refine RestVC.ext tt_ok ?_)); all_goals (conv => whnf)
  all_goals try (exfalso; simp_all; done)
  refine LoopVC.mk (G := Nat) (fun i => ⟨[(5, .v (i64 i)), (1, .v (.c (.sl 1001))), (0, .v (.c (.sl 1000)))], [(1000, .ext (.nest 33 66 2 ne [])), (1001, .ext (.nest 33 66 2 ne []))]⟩)
    (fun i => i ≤ L.length) (fun i => L.length - i) 0 (Nat.zero_le _) (Sub.mk [] _ ⟨rfl, rfl, rfl, trivial⟩ rfl rfl) ?_
  intro i hi
  by_cases hil : i < L.length
  · have gi : ne[(i : Int).toNat]? = some (mvE L[i]) := by rw [Int.toNat_natCast]; exact hg i hil
    have h3 := h2 _ (List.getElem_mem hil)
    have heq := Spec.ren [(1000, 9001), (1001, 9002)] [(9001, 1000), (9002, 1001)] (eqMoveS_self L[i] (by omega)) rfl rfl rfl
    generalize L[i] = l at *
    (repeat' ((conv => whnf); first | refine CondVC.t ?_ | refine CondVC.f ?_ | refine CondVC.dec (fun h => ?_) (fun h => ?_) | refine CondVC.ndec (fun h => ?_) (fun h => ?_) | refine CondVC.mk (fun h => ?_) (fun h => ?_) | refine ArVC.i64 (by first | omega | (simp only; omega)) ?_ | refine SideVC.mk (by first | omega | decide | (simp only; omega) | (simp [slS]; done) | (simp [slS]; omega) | (simp only [byteE_len, mvE_len, strE_len, intE_len, esC_len, List.length_cons, List.length_nil, List.length_append, List.length_replicate, List.length_set, Int.toNat_natCast, and_true] at *; omega)) ?_ | refine LoopN.go ?_ | exact trivial | refine AltVC.mk ?_ ?_ | refine HeldVC.mk rfl ?_ | refine DrawVC.tree (id := 6) tt_ok [] tx14_6 (by kernel_rfl) (by kernel_rfl) rfl ?_ | refine RestVC2.nestAddr tt_ok rfl rfl rfl rfl rfl (by rw [hll]; omega) ?_ | refine RestVC2.nestLoad tt_ok rfl rfl rfl rfl (by rw [hll]; omega) ?_ | (refine CallVC.inner 9001 1000 (i : Int).toNat [.c (.sl 9001), .c (.ins 1001 (i : Int).toNat)] rfl rfl gi rfl rfl ?_; refine CallVC.inner 9002 1001 (i : Int).toNat [.c (.sl 9001), .c (.sl 9002)] rfl rfl gi rfl rfl ?_; refine CallVC.res [9001, 9002] rfl heq rfl ?_; refine BackVC.same rfl rfl gi rfl rfl ?_; refine BackVC.same rfl rfl gi rfl rfl ?_) | refine OpVC.more tt_ok ?_ | refine RestVC.ext tt_ok ?_)); all_goals (conv => whnf)
    all_goals first
      | (exfalso; simp only [hll] at *; omega)
      | exact ⟨i + 1, by omega, by omega, Sub.mk [] _ ⟨rfl, rfl, rfl, trivial⟩ rfl rfl⟩
  · (repeat' ((conv => whnf); first | refine CondVC.t ?_ | refine CondVC.f ?_ | refine CondVC.dec (fun h => ?_) (fun h => ?_) | refine CondVC.ndec (fun h => ?_) (fun h => ?_) | refine CondVC.mk (fun h => ?_) (fun h => ?_) | refine ArVC.i64 (by first | omega | (simp only; omega)) ?_ | refine SideVC.mk (by first | omega | decide | (simp only; omega) | (simp [slS]; done) | (simp [slS]; omega) | (simp only [byteE_len, mvE_len, strE_len, intE_len, esC_len, List.length_cons, List.length_nil, List.length_append, List.length_replicate, List.length_set, Int.toNat_natCast, and_true] at *; omega)) ?_ | refine LoopN.go ?_ | exact trivial | refine AltVC.mk ?_ ?_ | refine HeldVC.mk rfl ?_ | refine OpVC.more tt_ok ?_ | refine RestVC.ext tt_ok ?_)); all_goals (conv => whnf)
    all_goals first
      | (exfalso; simp only [hll] at *; omega)
      | exact RetVC.res rfl rfl
theorem markSS_spec (L : List (List Mv)) (k : Int) (h1 : L.length ≤ 1000) (h2 : ∀ l ∈ L, l.length ≤ 1000) (hk : 0 ≤ k ∧ k ≤ 1000) : Spec Try.prog 15 [.c (.sl 1000), i64 k]
    [(1000, .ext (.nest 33 66 2 (exE [] L) []))] (isRes [i64 (kAt L k L.length)] [(1000, .ext (.nest 33 66 2 (mkTo L k L.length) []))]) := by
  have hz := mkTo_zero L k
  have hkz : kAt L k 0 = k := by simp [kAt]
  have hks := fun i (h : i < L.length) => kAt_succ k h
  have hkb := kAt_bound h1 h2 hk
  have hll := mkTo_len L k
  have hg := fun i (h : i < L.length) => mkTo_get (k := k) h
  have hs := fun i (h : i < L.length) => mkTo_set (k := k) h
  rw [← hz]
  generalize mkTo L k = ne at *
  generalize kAt L k = ka at *
  have hl0 := hll 0
  refine Spec.of_wpx tt_ok Try.func15 (by kernel_rfl) rfl ?_
  (repeat' ((conv => whnf); first | refine CondVC.t ?_ | refine CondVC.f ?_ | refine CondVC.dec (fun h => ?_) (fun h => ?_) | refine CondVC.ndec (fun h => ?_) (fun h => ?_) | refine CondVC.mk (fun h => ?_) (fun h => ?_) | refine ArVC.i64 (by first | omega | (simp only; omega)) ?_ | refine SideVC.mk (by first | omega | decide | (simp only; omega) | (simp [slS]; done) | (simp [slS]; omega) | (simp only [byteE_len, mvE_len, strE_len, intE_len, esC_len, List.length_cons, List.length_nil, List.length_append, List.length_replicate, List.length_set, Int.toNat_natCast, and_true] at *; omega)) ?_ | refine LoopN.go ?_ | exact trivial | refine AltVC.mk ?_ ?_ | refine HeldVC.mk rfl ?_ | refine OpVC.more tt_ok ?_ | refine RestVC.ext tt_ok ?_)); all_goals (conv => whnf)
  refine LoopVC.mk (G := Nat) (fun i => ⟨[(5, .v (i64 i)), (1, .v (i64 (ka i))), (0, .v (.c (.sl 1000)))], [(1000, .ext (.nest 33 66 2 (ne i) []))]⟩)
    (fun i => i ≤ L.length) (fun i => L.length - i) 0 (Nat.zero_le _) (Sub.mk [] _ ⟨rfl, by rw [hkz]; rfl, rfl, trivial⟩ rfl rfl) ?_
  intro i hi
  have hli := hll i
  by_cases hil : i < L.length
  · have gi : (ne i)[(i : Int).toNat]? = some (mvE L[i]) := by rw [Int.toNat_natCast]; exact hg i hil
    have h3 := h2 _ (List.getElem_mem hil)
    have hkb := hkb i
    have hmk := Spec.ren [(1000, 9001)] [(9001, 1000)] (markMoveS_spec L[i] (ka i) (by omega) (by omega)) rfl rfl rfl
    have hsi : (ne i).set (i : Int).toNat (mvE (marks (ka i) L[i].length)) = ne (i + 1) := by rw [Int.toNat_natCast]; exact hs i hil
    have hki := hks i hil
    generalize L[i] = l at *
    (repeat' ((conv => whnf); first | refine CondVC.t ?_ | refine CondVC.f ?_ | refine CondVC.dec (fun h => ?_) (fun h => ?_) | refine CondVC.ndec (fun h => ?_) (fun h => ?_) | refine CondVC.mk (fun h => ?_) (fun h => ?_) | refine ArVC.i64 (by first | omega | (simp only; omega)) ?_ | refine SideVC.mk (by first | omega | decide | (simp only; omega) | (simp [slS]; done) | (simp [slS]; omega) | (simp only [byteE_len, mvE_len, strE_len, intE_len, esC_len, List.length_cons, List.length_nil, List.length_append, List.length_replicate, List.length_set, Int.toNat_natCast, and_true] at *; omega)) ?_ | refine LoopN.go ?_ | exact trivial | refine AltVC.mk ?_ ?_ | refine HeldVC.mk rfl ?_ | refine RestVC2.nestAddr tt_ok rfl rfl rfl rfl rfl (by rw [hli]; omega) ?_ | refine RestVC2.nestLoad tt_ok rfl rfl rfl rfl (by rw [hli]; omega) ?_ | (refine CallVC.inner 9001 1000 (i : Int).toNat [.c (.sl 9001), i64 (ka i)] rfl rfl gi rfl rfl ?_; refine CallVC.res [9001] rfl hmk rfl ?_; refine BackVC.mk rfl rfl (by rw [hli]; omega) rfl rfl ?_) | refine OpVC.more tt_ok ?_ | refine RestVC.ext tt_ok ?_)); all_goals (conv => whnf)
    all_goals first
      | (exfalso; simp only [hli] at *; omega)
      | exact ⟨i + 1, by omega, by omega, Sub.mk [] _ ⟨rfl, by rw [hki]; rfl, rfl, trivial⟩ (by simp only [← hsi]; rfl) rfl⟩
  · have e : i = L.length := by omega
    subst e
    (repeat' ((conv => whnf); first | refine CondVC.t ?_ | refine CondVC.f ?_ | refine CondVC.dec (fun h => ?_) (fun h => ?_) | refine CondVC.ndec (fun h => ?_) (fun h => ?_) | refine CondVC.mk (fun h => ?_) (fun h => ?_) | refine ArVC.i64 (by first | omega | (simp only; omega)) ?_ | refine SideVC.mk (by first | omega | decide | (simp only; omega) | (simp [slS]; done) | (simp [slS]; omega) | (simp only [byteE_len, mvE_len, strE_len, intE_len, esC_len, List.length_cons, List.length_nil, List.length_append, List.length_replicate, List.length_set, Int.toNat_natCast, and_true] at *; omega)) ?_ | refine LoopN.go ?_ | exact trivial | refine AltVC.mk ?_ ?_ | refine HeldVC.mk rfl ?_ | refine OpVC.more tt_ok ?_ | refine RestVC.ext tt_ok ?_)); all_goals (conv => whnf)
    all_goals first
      | (exfalso; simp only [hli] at *; omega)
      | exact RetVC.res rfl rfl
theorem heldSS_spec (L : List (List Mv)) (k : Int) (h1 : L.length ≤ 1000) (h2 : ∀ l ∈ L, l.length ≤ 1000) (hk : 0 ≤ k ∧ k ≤ 1000) : Spec Try.prog 16 [.c (.sl 1000), i64 k]
    [(1000, .ext (.nest 33 66 2 (mkTo L k L.length) []))] (isRes [i64 (kAt L k L.length)] [(1000, .ext (.nest 33 66 2 (mkTo L k L.length) []))]) := by
  have hkz : kAt L k 0 = k := by simp [kAt]
  have hks := fun i (h : i < L.length) => kAt_succ k h
  have hkb := kAt_bound h1 h2 hk
  have hll := mkTo_len L k L.length
  have hg := fun i (h : i < L.length) => mkEnd_get (k := k) h
  generalize mkTo L k L.length = ne at *
  generalize kAt L k = ka at *
  refine Spec.of_wpx tt_ok Try.func16 (by kernel_rfl) rfl ?_
  (repeat' ((conv => whnf); first | refine CondVC.t ?_ | refine CondVC.f ?_ | refine CondVC.dec (fun h => ?_) (fun h => ?_) | refine CondVC.ndec (fun h => ?_) (fun h => ?_) | refine CondVC.mk (fun h => ?_) (fun h => ?_) | refine ArVC.i64 (by first | omega | (simp only; omega)) ?_ | refine SideVC.mk (by first | omega | decide | (simp only; omega) | (simp [slS]; done) | (simp [slS]; omega) | (simp only [byteE_len, mvE_len, strE_len, intE_len, esC_len, List.length_cons, List.length_nil, List.length_append, List.length_replicate, List.length_set, Int.toNat_natCast, and_true] at *; omega)) ?_ | refine LoopN.go ?_ | exact trivial | refine AltVC.mk ?_ ?_ | refine HeldVC.mk rfl ?_ | refine OpVC.more tt_ok ?_ | refine RestVC.ext tt_ok ?_)); all_goals (conv => whnf)
  refine LoopVC.mk (G := Nat) (fun i => ⟨[(5, .v (i64 i)), (1, .v (i64 (ka i))), (0, .v (.c (.sl 1000)))], [(1000, .ext (.nest 33 66 2 ne []))]⟩)
    (fun i => i ≤ L.length) (fun i => L.length - i) 0 (Nat.zero_le _) (Sub.mk [] _ ⟨rfl, by rw [hkz]; rfl, rfl, trivial⟩ rfl rfl) ?_
  intro i hi
  by_cases hil : i < L.length
  · have gi : ne[(i : Int).toNat]? = some (mvE (marks (ka i) L[i].length)) := by rw [Int.toNat_natCast]; exact hg i hil
    have h3 := h2 _ (List.getElem_mem hil)
    have hkb := hkb i
    have hmk := Spec.ren [(1000, 9001)] [(9001, 1000)] (heldMoveS_spec L[i].length (ka i) (by omega) (by omega)) rfl rfl rfl
    have hki := hks i hil
    generalize L[i] = l at *
    (repeat' ((conv => whnf); first | refine CondVC.t ?_ | refine CondVC.f ?_ | refine CondVC.dec (fun h => ?_) (fun h => ?_) | refine CondVC.ndec (fun h => ?_) (fun h => ?_) | refine CondVC.mk (fun h => ?_) (fun h => ?_) | refine ArVC.i64 (by first | omega | (simp only; omega)) ?_ | refine SideVC.mk (by first | omega | decide | (simp only; omega) | (simp [slS]; done) | (simp [slS]; omega) | (simp only [byteE_len, mvE_len, strE_len, intE_len, esC_len, List.length_cons, List.length_nil, List.length_append, List.length_replicate, List.length_set, Int.toNat_natCast, and_true] at *; omega)) ?_ | refine LoopN.go ?_ | exact trivial | refine AltVC.mk ?_ ?_ | refine HeldVC.mk rfl ?_ | refine RestVC2.nestAddr tt_ok rfl rfl rfl rfl rfl (by rw [hll]; omega) ?_ | refine RestVC2.nestLoad tt_ok rfl rfl rfl rfl (by rw [hll]; omega) ?_ | (refine CallVC.inner 9001 1000 (i : Int).toNat [.c (.sl 9001), i64 (ka i)] rfl rfl gi rfl rfl ?_; refine CallVC.res [9001] rfl hmk rfl ?_; refine BackVC.same rfl rfl gi rfl rfl ?_) | refine OpVC.more tt_ok ?_ | refine RestVC.ext tt_ok ?_)); all_goals (conv => whnf)
    all_goals first
      | (exfalso; simp only [hll] at *; omega)
      | exact ⟨i + 1, by omega, by omega, Sub.mk [] _ ⟨rfl, by rw [hki]; rfl, rfl, trivial⟩ rfl rfl⟩
  · have e : i = L.length := by omega
    subst e
    (repeat' ((conv => whnf); first | refine CondVC.t ?_ | refine CondVC.f ?_ | refine CondVC.dec (fun h => ?_) (fun h => ?_) | refine CondVC.ndec (fun h => ?_) (fun h => ?_) | refine CondVC.mk (fun h => ?_) (fun h => ?_) | refine ArVC.i64 (by first | omega | (simp only; omega)) ?_ | refine SideVC.mk (by first | omega | decide | (simp only; omega) | (simp [slS]; done) | (simp [slS]; omega) | (simp only [byteE_len, mvE_len, strE_len, intE_len, esC_len, List.length_cons, List.length_nil, List.length_append, List.length_replicate, List.length_set, Int.toNat_natCast, and_true] at *; omega)) ?_ | refine LoopN.go ?_ | exact trivial | refine AltVC.mk ?_ ?_ | refine HeldVC.mk rfl ?_ | refine OpVC.more tt_ok ?_ | refine RestVC.ext tt_ok ?_)); all_goals (conv => whnf)
    all_goals first
      | (exfalso; simp only [hll] at *; omega)
      | exact RetVC.res rfl rfl
theorem lawAllExchanges_spec (x y z : Int) : Spec Try.prog 5 [i64 x, i64 y, i64 z] [] (isRes [vb true] []) := by
  have h1 := specAllExchanges_spec x y z
  have h2 := implAllExchanges_spec x y z
  obtain ⟨hl1, hl2⟩ := xsL_few x y z
  have e1 := eqSS_self (xsL x y z) (by omega) (fun l hl => by have := hl2 l hl; omega)
  have e2 := markSS_spec (xsL x y z) 1 (by omega) (fun l hl => by have := hl2 l hl; omega) (by omega)
  have e3 := heldSS_spec (xsL x y z) 1 (by omega) (fun l hl => by have := hl2 l hl; omega) (by omega)
  have hkb := kAt_bound (L := xsL x y z) (by omega) (fun l hl => by have := hl2 l hl; omega) (k := 1) (by omega) (xsL x y z).length
  generalize kAt (xsL x y z) 1 (xsL x y z).length = ke at *
  generalize mkTo (xsL x y z) 1 (xsL x y z).length = me at *
  generalize exE [] (xsL x y z) = l at *
  generalize xsOk x y z = b at *
  refine Spec.of_wpx tt_ok Try.func5 (by kernel_rfl) rfl ?_
  cases b
  all_goals
    (repeat' ((conv => whnf); first | refine CondVC.t ?_ | refine CondVC.f ?_ | refine CondVC.dec (fun h => ?_) (fun h => ?_) | refine CondVC.ndec (fun h => ?_) (fun h => ?_) | refine CondVC.mk (fun h => ?_) (fun h => ?_) | refine ArVC.i64 (by first | omega | (simp only; omega)) ?_ | refine SideVC.mk (by first | omega | decide | (simp only; omega) | (simp [slS]; done) | (simp [slS]; omega) | (simp only [byteE_len, mvE_len, strE_len, intE_len, esC_len, List.length_cons, List.length_nil, List.length_append, List.length_replicate, List.length_set, Int.toNat_natCast, and_true] at *; omega)) ?_ | refine LoopN.go ?_ | exact trivial | refine AltVC.mk ?_ ?_ | refine HeldVC.mk rfl ?_ | refine CallVC.res [] rfl (Spec.ren [(1001, 2001)] [(2001, 1001)] h1 rfl rfl rfl) rfl ?_ | refine CallVC.res [] rfl (Spec.ren [(1001, 2002)] [(2002, 1001)] h2 rfl rfl rfl) rfl ?_ | refine CallVC.res [] rfl (Spec.ren [(1001, 2003)] [(2003, 1001)] h2 rfl rfl rfl) rfl ?_ | refine CallVC.res [2002, 2001] rfl (Spec.ren [(1000, 2002), (1001, 2001)] [(2002, 1000), (2001, 1001)] e1 rfl rfl rfl) rfl ?_ | refine CallVC.res [2003, 2001] rfl (Spec.ren [(1000, 2003), (1001, 2001)] [(2003, 1000), (2001, 1001)] e1 rfl rfl rfl) rfl ?_ | refine CallVC.res [2002] rfl (Spec.ren [(1000, 2002)] [(2002, 1000)] e2 rfl rfl rfl) rfl ?_ | refine CallVC.res [2002] rfl (Spec.ren [(1000, 2002)] [(2002, 1000)] e3 rfl rfl rfl) rfl ?_ | refine OpVC.more tt_ok ?_ | refine RestVC.ext tt_ok ?_)); all_goals (conv => whnf)
    all_goals first | exact RetVC.res rfl rfl | (exfalso; omega) | (exfalso; simp_all; done)
end Go.Proofs.Ytblihaicbhdbdaa.X
