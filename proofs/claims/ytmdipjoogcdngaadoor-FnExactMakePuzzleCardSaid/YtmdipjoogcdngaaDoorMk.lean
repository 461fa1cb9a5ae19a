/- FnExactMakePuzzle: both functions and the law. No condition beyond the statement's. -/
import Derived.Test.YtmdipjoogcdngaaDoorFitL
import Derived.Test.YtmdipjoogcdngaaDoorAdd
namespace Go.Proofs.YtmdipjoogcdngaaDoor.X
open Go.Proofs
set_option maxRecDepth 100000
set_option linter.unusedVariables false
set_option linter.unusedSimpArgs false
def nxP (z : Int) : Int := (z * 167 + 2281).tmod 10007
theorem nxP_range {z : Int} (h : 0 ≤ z ∧ z ≤ 10006) : 0 ≤ nxP z ∧ nxP z ≤ 10006 := by
  unfold nxP
  rw [Int.tmod_eq_emod_of_nonneg (by omega)]
  omega
theorem tmod_range {z n : Int} (h : 0 ≤ z) (hn : 0 < n) : 0 ≤ z.tmod n ∧ z.tmod n < n := by
  rw [Int.tmod_eq_emod_of_nonneg h]
  exact ⟨Int.emod_nonneg _ (by omega), Int.emod_lt_of_pos _ hn⟩
def stepP (w : Tx) (p : Int × List Cl) : Int × List Cl :=
  if (nxP p.1).tmod 6 = 0 then (nxP (nxP p.1), p.2 ++ [(0, (nxP (nxP p.1)).tmod (w.length : Nat), valF 0 ((nxP (nxP p.1)).tmod (w.length : Nat)) w)])
  else (nxP p.1, p.2 ++ [((nxP p.1).tmod 6, valF ((nxP p.1).tmod 6) 0 w, 0)])
def itP (w : Tx) (z : Int) : Nat → Int × List Cl
  | 0 => (z, [])
  | n + 1 => stepP w (itP w z n)
theorem itP_len (w : Tx) (z : Int) : ∀ n, (itP w z n).2.length = n
  | 0 => rfl
  | n + 1 => by
    have := itP_len w z n
    show (stepP w (itP w z n)).2.length = n + 1
    unfold stepP
    split <;> simp [this]
theorem itP_range (w : Tx) {z : Int} (h : 0 ≤ z ∧ z ≤ 10006) : ∀ n, 0 ≤ (itP w z n).1 ∧ (itP w z n).1 ≤ 10006
  | 0 => h
  | n + 1 => by
    have := itP_range w h n
    show 0 ≤ (stepP w (itP w z n)).1 ∧ (stepP w (itP w z n)).1 ≤ 10006
    unfold stepP
    split
    · exact nxP_range (nxP_range this)
    · exact nxP_range this
def mkOk (w : Tx) (c s : Int) : Bool := lineOf w 5 && (decide (0 ≤ c ∧ c ≤ 6) && decide (0 ≤ s ∧ s ≤ 9999))
def mkN (w : Tx) (c s : Int) : Int := if mkOk w c s then (w.length : Nat) else 0
def mkL (w : Tx) (c s : Int) : List Cl := if mkOk w c s then (itP w s c.toNat).2 else []
theorem pzNext_spec (z : Int) (h : 0 ≤ z ∧ z ≤ 10006) : Spec Tryd.prog 82 [i64 z] [] (isRes [i64 (nxP z)] []) := by
  have e : nxP z = (167 * z + 2281).tmod 10007 := by unfold nxP; rw [Int.mul_comm]
  rw [e]
  refine Spec.of_wpx tt_ok Tryd.func82 (by kernel_rfl) rfl ?_
  (repeat' ((conv => whnf); first | refine CondVC.t ?_ | refine CondVC.f ?_ | refine CondVC.dec (fun h => ?_) (fun h => ?_) | refine CondVC.ndec (fun h => ?_) (fun h => ?_) | refine CondVC.mk (fun h => ?_) (fun h => ?_) | refine ArVC.i64 (by first | omega | (simp only; omega)) ?_ | refine SideVC.mk (by first | omega | decide | (simp only; omega) | (simp [slS]; done) | (simp [slS]; omega) | (simp only [byteE_len, mvE_len, strE_len, intE_len, esC_len, List.length_cons, List.length_nil, List.length_append, List.length_replicate, List.length_set, Int.toNat_natCast, and_true] at *; omega)) ?_ | refine LoopN.go ?_ | exact trivial | refine AltVC.mk ?_ ?_ | refine HeldVC.mk rfl ?_ | refine OpVC.more tt_ok ?_ | refine RestVC.ext tt_ok ?_)); all_goals (conv => whnf)
  all_goals first | exact RetVC.res rfl rfl | (exfalso; omega)
theorem next_spec (z : Int) (h : 0 ≤ z ∧ z ≤ 10006) : Spec Tryd.prog 85 [.c (.ptr 1000 0)] [(1000, .box 3 [.int .i64 z])] (isRes [i64 (nxP z)] [(1000, .box 3 [.int .i64 (nxP z)])]) := by
  unfold nxP
  refine Spec.of_wpx tt_ok Tryd.func85 (by kernel_rfl) rfl ?_
  (repeat' ((conv => whnf); first | refine CondVC.t ?_ | refine CondVC.f ?_ | refine CondVC.dec (fun h => ?_) (fun h => ?_) | refine CondVC.ndec (fun h => ?_) (fun h => ?_) | refine CondVC.mk (fun h => ?_) (fun h => ?_) | refine ArVC.i64 (by first | omega | (simp only; omega)) ?_ | refine SideVC.mk (by first | omega | decide | (simp only; omega) | (simp [slS]; done) | (simp [slS]; omega) | (simp only [byteE_len, mvE_len, strE_len, intE_len, esC_len, List.length_cons, List.length_nil, List.length_append, List.length_replicate, List.length_set, Int.toNat_natCast, and_true] at *; omega)) ?_ | refine LoopN.go ?_ | exact trivial | refine AltVC.mk ?_ ?_ | refine HeldVC.mk rfl ?_ | refine OpVC.more tt_ok ?_ | refine RestVC.ext tt_ok ?_)); all_goals (conv => whnf)
  all_goals first | exact RetVC.res rfl rfl | (exfalso; omega)
def clO (k a : Int) (w : Tx) : Cl := if k = 0 then (0, a, valF 0 a w) else (k, valF k 0 w, 0)
theorem pzOf_spec (k a : Int) (w : Tx) (hw : w.length ≤ 10) (hok : w.all okCh = true) (hk : 0 ≤ k ∧ k ≤ 5) (ha : k = 0 → 0 ≤ a ∧ a < w.length) :
    Spec Tryd.prog 83 [i64 k, i64 a, .c (.str w)] [] (isRes [.agg (clC (clO k a w))] []) := by
  unfold clO
  by_cases h0 : k = 0
  · subst h0
    have h1 := pzValue_spec 0 a w hw hok hk ha
    rw [if_pos rfl]
    generalize valF 0 a w = q at *
    refine Spec.of_wpx tt_ok Tryd.func83 (by kernel_rfl) rfl ?_
    (repeat' ((conv => whnf); first | refine CondVC.t ?_ | refine CondVC.f ?_ | refine CondVC.dec (fun h => ?_) (fun h => ?_) | refine CondVC.ndec (fun h => ?_) (fun h => ?_) | refine CondVC.mk (fun h => ?_) (fun h => ?_) | refine ArVC.i64 (by first | omega | (simp only; omega)) ?_ | refine SideVC.mk (by first | omega | decide | (simp only; omega) | (simp [slS]; done) | (simp [slS]; omega) | (simp only [byteE_len, mvE_len, strE_len, intE_len, esC_len, List.length_cons, List.length_nil, List.length_append, List.length_replicate, List.length_set, Int.toNat_natCast, and_true] at *; omega)) ?_ | refine LoopN.go ?_ | exact trivial | refine AltVC.mk ?_ ?_ | refine HeldVC.mk rfl ?_ | refine CallVC.pure h1 rfl ?_ | refine OpVC.more tt_ok ?_ | refine RestVC.ext tt_ok ?_)); all_goals (conv => whnf)
    all_goals first | exact RetVC.res rfl rfl | (exfalso; omega)
  · have h1 := pzValue_spec k 0 w hw hok hk (fun h => absurd h h0)
    rw [if_neg h0]
    generalize valF k 0 w = q at *
    refine Spec.of_wpx tt_ok Tryd.func83 (by kernel_rfl) rfl ?_
    (repeat' ((conv => whnf); first | refine CondVC.t ?_ | refine CondVC.f ?_ | refine CondVC.dec (fun h => ?_) (fun h => ?_) | refine CondVC.ndec (fun h => ?_) (fun h => ?_) | refine CondVC.mk (fun h => ?_) (fun h => ?_) | refine ArVC.i64 (by first | omega | (simp only; omega)) ?_ | refine SideVC.mk (by first | omega | decide | (simp only; omega) | (simp [slS]; done) | (simp [slS]; omega) | (simp only [byteE_len, mvE_len, strE_len, intE_len, esC_len, List.length_cons, List.length_nil, List.length_append, List.length_replicate, List.length_set, Int.toNat_natCast, and_true] at *; omega)) ?_ | refine LoopN.go ?_ | exact trivial | refine AltVC.mk ?_ ?_ | refine HeldVC.mk rfl ?_ | refine CallVC.pure h1 rfl ?_ | refine OpVC.more tt_ok ?_ | refine RestVC.ext tt_ok ?_)); all_goals (conv => whnf)
    all_goals first | exact RetVC.res rfl rfl | (exfalso; omega)
theorem clueOf2_spec (k a : Int) (w : Tx) (hw : w.length ≤ 10) (hok : w.all okCh = true) (hk : 0 ≤ k ∧ k ≤ 5) (ha : k = 0 → 0 ≤ a ∧ a < w.length) (ha0 : k ≠ 0 → a = 0) :
    Spec Tryd.prog 80 [i64 k, i64 a, .c (.str w)] [] (isRes [.agg (clC (clO k a w))] []) := by
  have h1 := clueOf_spec k a w hw hok hk ha
  have e : cluF k a w = .agg (clC (clO k a w)) := by
    unfold cluF clO
    by_cases h0 : k = 0
    · rw [if_pos h0, if_pos h0]; rfl
    · rw [if_neg h0, if_neg h0, ha0 h0]; rfl
  rwa [e] at h1
def trMk : Tr := .take 0 (.take 2 (.take 3 (.take 4 (.alt 1 (.alt 5 (.alt 6 (.alt 7 (.take 8 (.alt 9 (.done) (.no))) (.no)) (.no)) (.no)) (.alt 5 (.alt 1 (.alt 6 (.alt 7 (.take 8 (.alt 9 (.done) (.no))) (.no)) (.no)) (.alt 6 (.alt 1 (.alt 7 (.take 8 (.alt 9 (.done) (.no))) (.no)) (.no)) (.no))) (.no))))))
theorem step_yes {w : Tx} {p : Int × List Cl} (h : (nxP p.1).tmod 6 = 0) : stepP w p = (nxP (nxP p.1), p.2 ++ [clO ((nxP p.1).tmod 6) ((nxP (nxP p.1)).tmod (w.length : Nat)) w]) := by
  unfold stepP clO; rw [if_pos h, if_pos h]
theorem step_no {w : Tx} {p : Int × List Cl} (h : ¬ (nxP p.1).tmod 6 = 0) : stepP w p = (nxP p.1, p.2 ++ [clO ((nxP p.1).tmod 6) 0 w]) := by
  unfold stepP clO; rw [if_neg h, if_neg h]
set_option maxHeartbeats 1000000 in
theorem implMakePuzzle_spec (w : Tx) (c s : Int) (hl : w.length ≤ 1048576) : Spec Tryd.prog 18 [.c (.str w), i64 c, i64 s] []
    (isRes [.agg [.int .i64 (mkN w c s), .sl 1001], vb (mkOk w c s)] [(1001, .sl 29 3 (esC (mkL w c s)))]) := by
  have h1 := isLineOf_spec w 5 (by omega)
  have h2 := within_spec c 0 6
  have h3 := within_spec s 0 9999
  unfold mkN mkL
  cases hm : mkOk w c s with
  | false =>
    rw [if_neg Bool.false_ne_true, if_neg Bool.false_ne_true]
    unfold mkOk at hm
    generalize lineOf w 5 = b1 at *
    generalize decide (0 ≤ c ∧ c ≤ 6) = b2 at *
    generalize decide (0 ≤ s ∧ s ≤ 9999) = b3 at *
    refine Spec.of_wpx tt_ok Tryd.func18 (by kernel_rfl) rfl ?_
    cases b1 <;> cases b2 <;> cases b3
    all_goals try (cases hm; done)
    all_goals
      (repeat' ((conv => whnf); first | refine CondVC.t ?_ | refine CondVC.f ?_ | refine CondVC.dec (fun h => ?_) (fun h => ?_) | refine CondVC.ndec (fun h => ?_) (fun h => ?_) | refine CondVC.mk (fun h => ?_) (fun h => ?_) | refine ArVC.i64 (by first | omega | (simp only; omega)) ?_ | refine SideVC.mk (by first | omega | decide | (simp only; omega) | (simp [slS]; done) | (simp [slS]; omega) | (simp only [byteE_len, mvE_len, strE_len, intE_len, esC_len, List.length_cons, List.length_nil, List.length_append, List.length_replicate, List.length_set, Int.toNat_natCast, and_true] at *; omega)) ?_ | refine LoopN.go ?_ | exact trivial | refine AltVC.mk ?_ ?_ | refine HeldVC.mk rfl ?_ | refine CallVC.pure h1 rfl ?_ | refine CallVC.pure h2 rfl ?_ | refine CallVC.pure h3 rfl ?_ | refine OpVC.more tt_ok ?_ | refine RestVC.ext tt_ok ?_)); all_goals (conv => whnf)
      all_goals first
        | exact RetVC.nil 1001 29 3 [.agg [.int .i64 0, .sl 1001], vb false] [(6, .box 34 [.int .i64 0, .val (.slice none 0 0)]), (5, .box 3 [.int .i64 s])] rfl rfl rfl (RetVC.res rfl rfl)
        | (exfalso; simp_all; done)
  | true =>
    rw [if_pos rfl, if_pos rfl]
    unfold mkOk at hm
    simp only [Bool.and_eq_true] at hm
    obtain ⟨m1, m2, m3⟩ := hm
    obtain ⟨⟨g1, g2⟩, hok⟩ := line5 m1
    rw [m1] at h1
    rw [m2] at h2
    rw [m3] at h3
    simp only [decide_eq_true_eq] at m2 m3
    obtain ⟨n, rfl⟩ := Int.eq_ofNat_of_zero_le m2.1
    rw [Int.toNat_natCast]
    have hrg := itP_range w (z := s) (by omega)
    have hlen := itP_len w s
    refine Spec.of_wpx tt_ok Tryd.func18 (by kernel_rfl) rfl ?_
    (repeat' ((conv => whnf); first | refine CondVC.t ?_ | refine CondVC.f ?_ | refine CondVC.dec (fun h => ?_) (fun h => ?_) | refine CondVC.ndec (fun h => ?_) (fun h => ?_) | refine CondVC.mk (fun h => ?_) (fun h => ?_) | refine ArVC.i64 (by first | omega | (simp only; omega)) ?_ | refine SideVC.mk (by first | omega | decide | (simp only; omega) | (simp [slS]; done) | (simp [slS]; omega) | (simp only [byteE_len, mvE_len, strE_len, intE_len, esC_len, List.length_cons, List.length_nil, List.length_append, List.length_replicate, List.length_set, Int.toNat_natCast, and_true] at *; omega)) ?_ | refine LoopN.go ?_ | exact trivial | refine AltVC.mk ?_ ?_ | refine HeldVC.mk rfl ?_ | refine CallVC.pure h1 rfl ?_ | refine CallVC.pure h2 rfl ?_ | refine CallVC.pure h3 rfl ?_ | refine OpVC.more tt_ok ?_ | refine RestVC.ext tt_ok ?_)); all_goals (conv => whnf)
    all_goals try (exfalso; simp_all; done)
    refine LoopVC.mk (G := Nat) (fun i => ⟨[(32, .v (i64 i)), (31, .v (i64 n)), (9, .v (.c (.ptr 9 0))), (8, .v (.c (.fn 85 [5]))), (6, .v (.c (.ptr 6 0))), (5, .v (.c (.ptr 5 0))), (0, .v (.c (.str w)))],
        [(5, .box 3 [.int .i64 (itP w s i).1]), (6, .box 34 [.int .i64 0, .val (.slice none 0 0)]), (9, .box 34 [.int .i64 (w.length : Nat), .sl 3001]), (3001, .sl 29 3 (esC (itP w s i).2))]⟩)
      (fun i => i ≤ n) (fun i => n - i) 0 (Nat.zero_le _) (Sub.mk [(3001, 29)] _ ⟨rfl, rfl, rfl, rfl, rfl, rfl, rfl, trivial⟩ rfl rfl) ?_
    intro i hi
    by_cases hin : i < n
    · have hz := hrg i
      have hls := hlen i
      have hcl := esC_len (itP w s i).2
      have hst : itP w s (i + 1) = stepP w (itP w s i) := rfl
      have r1 := nxP_range hz
      have n1 := Spec.ren [(1000, 5)] [(5, 1000)] (next_spec _ hz) rfl rfl rfl
      have n2 := Spec.ren [(1000, 5)] [(5, 1000)] (next_spec _ r1) rfl rfl rfl
      have r2 := nxP_range r1
      have k6 := tmod_range r1.1 (show (0 : Int) < 6 by decide)
      have k5 := tmod_range r2.1 (show (0 : Int) < (w.length : Nat) by omega)
      by_cases h0 : (nxP (itP w s i).1).tmod 6 = 0
      · have hc := clueOf2_spec _ _ w (by omega) hok ⟨k6.1, by omega⟩ (fun _ => k5) (fun h => absurd h0 h)
        have e := step_yes (w := w) h0
        rw [e] at hst
        have e1 : (itP w s (i + 1)).1 = nxP (nxP (itP w s i).1) := by rw [hst]
        have e2 : esC (itP w s (i + 1)).2 = esC (itP w s i).2 ++ [clC (clO ((nxP (itP w s i).1).tmod 6) ((nxP (nxP (itP w s i).1)).tmod (w.length : Nat)) w)] := by rw [hst, esC_append]; rfl
        clear hst e
        generalize clO ((nxP (itP w s i).1).tmod 6) ((nxP (nxP (itP w s i).1)).tmod (w.length : Nat)) w = q at *
        generalize nxP (nxP (itP w s i).1) = z2 at *
        generalize nxP (itP w s i).1 = z1 at *
        generalize (itP w s i).1 = z at *
        generalize (itP w s i).2 = l at *
        (repeat' ((conv => whnf); first | refine CondVC.t ?_ | refine CondVC.f ?_ | refine CondVC.dec (fun h => ?_) (fun h => ?_) | refine CondVC.ndec (fun h => ?_) (fun h => ?_) | refine CondVC.mk (fun h => ?_) (fun h => ?_) | refine ArVC.i64 (by first | omega | (simp only; omega)) ?_ | refine SideVC.mk (by first | omega | decide | (simp only; omega) | (simp [slS]; done) | (simp [slS]; omega) | (simp only [byteE_len, mvE_len, strE_len, intE_len, esC_len, List.length_cons, List.length_nil, List.length_append, List.length_replicate, List.length_set, Int.toNat_natCast, and_true] at *; omega)) ?_ | refine LoopN.go ?_ | exact trivial | refine AltVC.mk ?_ ?_ | refine HeldVC.mk rfl ?_ | refine CallVC.res [5] rfl n1 rfl ?_ | refine CallVC.res [5] rfl n2 rfl ?_ | refine CallVC.pure hc rfl ?_ | refine SideVC.mk (by simp only [hcl, hls, List.length_cons, List.length_nil]; omega) ?_ | refine DrawVC.tree (id := 10) tt_ok [] trMk (by kernel_rfl) (by kernel_rfl) rfl ?_ | refine OpVC.more tt_ok ?_ | refine RestVC.ext tt_ok ?_)); all_goals (conv => whnf)
        all_goals first
          | (exfalso; omega)
          | exact ⟨i + 1, by omega, by omega, Sub.mk [(3001, 51)] _ ⟨rfl, rfl, rfl, rfl, rfl, rfl, rfl, trivial⟩ (by simp only [e1, e2]; rfl) rfl⟩
      · have hc := clueOf2_spec _ 0 w (by omega) hok ⟨k6.1, by omega⟩ (fun h => absurd h h0) (fun _ => rfl)
        have e := step_no (w := w) h0
        rw [e] at hst
        have e1 : (itP w s (i + 1)).1 = nxP (itP w s i).1 := by rw [hst]
        have e2 : esC (itP w s (i + 1)).2 = esC (itP w s i).2 ++ [clC (clO ((nxP (itP w s i).1).tmod 6) 0 w)] := by rw [hst, esC_append]; rfl
        clear hst e
        generalize clO ((nxP (itP w s i).1).tmod 6) 0 w = q at *
        generalize nxP (itP w s i).1 = z1 at *
        generalize (itP w s i).1 = z at *
        generalize (itP w s i).2 = l at *
        (repeat' ((conv => whnf); first | refine CondVC.t ?_ | refine CondVC.f ?_ | refine CondVC.dec (fun h => ?_) (fun h => ?_) | refine CondVC.ndec (fun h => ?_) (fun h => ?_) | refine CondVC.mk (fun h => ?_) (fun h => ?_) | refine ArVC.i64 (by first | omega | (simp only; omega)) ?_ | refine SideVC.mk (by first | omega | decide | (simp only; omega) | (simp [slS]; done) | (simp [slS]; omega) | (simp only [byteE_len, mvE_len, strE_len, intE_len, esC_len, List.length_cons, List.length_nil, List.length_append, List.length_replicate, List.length_set, Int.toNat_natCast, and_true] at *; omega)) ?_ | refine LoopN.go ?_ | exact trivial | refine AltVC.mk ?_ ?_ | refine HeldVC.mk rfl ?_ | refine CallVC.res [5] rfl n1 rfl ?_ | refine CallVC.pure hc rfl ?_ | refine SideVC.mk (by simp only [hcl, hls, List.length_cons, List.length_nil]; omega) ?_ | refine DrawVC.tree (id := 10) tt_ok [] trMk (by kernel_rfl) (by kernel_rfl) rfl ?_ | refine OpVC.more tt_ok ?_ | refine RestVC.ext tt_ok ?_)); all_goals (conv => whnf)
        all_goals first
          | (exfalso; omega)
          | exact ⟨i + 1, by omega, by omega, Sub.mk [(3001, 51)] _ ⟨rfl, rfl, rfl, rfl, rfl, rfl, rfl, trivial⟩ (by simp only [e1, e2]; rfl) rfl⟩
    · have e : i = n := by omega
      subst e
      (repeat' ((conv => whnf); first | refine CondVC.t ?_ | refine CondVC.f ?_ | refine CondVC.dec (fun h => ?_) (fun h => ?_) | refine CondVC.ndec (fun h => ?_) (fun h => ?_) | refine CondVC.mk (fun h => ?_) (fun h => ?_) | refine ArVC.i64 (by first | omega | (simp only; omega)) ?_ | refine SideVC.mk (by first | omega | decide | (simp only; omega) | (simp [slS]; done) | (simp [slS]; omega) | (simp only [byteE_len, mvE_len, strE_len, intE_len, esC_len, List.length_cons, List.length_nil, List.length_append, List.length_replicate, List.length_set, Int.toNat_natCast, and_true] at *; omega)) ?_ | refine LoopN.go ?_ | exact trivial | refine AltVC.mk ?_ ?_ | refine HeldVC.mk rfl ?_ | refine OpVC.more tt_ok ?_ | refine RestVC.ext tt_ok ?_)); all_goals (conv => whnf)
      all_goals first
        | (exfalso; omega)
        | exact RetVC.ren [(1001, 3001)] [.agg [.int .i64 (w.length : Nat), .sl 1001], vb true] [(1001, .sl 29 3 (esC (itP w s i).2))] rfl rfl rfl ⟨rfl, rfl⟩
set_option maxHeartbeats 1000000 in
theorem specMakePuzzle_spec (w : Tx) (c s : Int) (hl : w.length ≤ 1048576) : Spec Tryd.prog 17 [.c (.str w), i64 c, i64 s] []
    (isRes [.agg [.int .i64 (mkN w c s), .sl 1001], vb (mkOk w c s)] [(1001, .sl 29 3 (esC (mkL w c s)))]) := by
  have h1 := pzLine_spec w hl
  have h2 := l1In_spec c 0 6
  have h3 := l1In_spec s 0 9999
  unfold mkN mkL
  cases hm : mkOk w c s with
  | false =>
    rw [if_neg Bool.false_ne_true, if_neg Bool.false_ne_true]
    unfold mkOk at hm
    generalize lineOf w 5 = b1 at *
    generalize decide (0 ≤ c ∧ c ≤ 6) = b2 at *
    generalize decide (0 ≤ s ∧ s ≤ 9999) = b3 at *
    refine Spec.of_wpx tt_ok Tryd.func17 (by kernel_rfl) rfl ?_
    cases b1 <;> cases b2 <;> cases b3
    all_goals try (cases hm; done)
    all_goals
      (repeat' ((conv => whnf); first | refine CondVC.t ?_ | refine CondVC.f ?_ | refine CondVC.dec (fun h => ?_) (fun h => ?_) | refine CondVC.ndec (fun h => ?_) (fun h => ?_) | refine CondVC.mk (fun h => ?_) (fun h => ?_) | refine ArVC.i64 (by first | omega | (simp only; omega)) ?_ | refine SideVC.mk (by first | omega | decide | (simp only; omega) | (simp [slS]; done) | (simp [slS]; omega) | (simp only [byteE_len, mvE_len, strE_len, intE_len, esC_len, List.length_cons, List.length_nil, List.length_append, List.length_replicate, List.length_set, Int.toNat_natCast, and_true] at *; omega)) ?_ | refine LoopN.go ?_ | exact trivial | refine AltVC.mk ?_ ?_ | refine HeldVC.mk rfl ?_ | refine CallVC.pure h1 rfl ?_ | refine CallVC.pure h2 rfl ?_ | refine CallVC.pure h3 rfl ?_ | refine OpVC.more tt_ok ?_ | refine RestVC.ext tt_ok ?_)); all_goals (conv => whnf)
      all_goals first
        | exact RetVC.nil 1001 29 3 [.agg [.int .i64 0, .sl 1001], vb false] [(6, .box 34 [.int .i64 0, .val (.slice none 0 0)])] rfl rfl rfl (RetVC.res rfl rfl)
        | (exfalso; simp_all; done)
  | true =>
    rw [if_pos rfl, if_pos rfl]
    unfold mkOk at hm
    simp only [Bool.and_eq_true] at hm
    obtain ⟨m1, m2, m3⟩ := hm
    obtain ⟨⟨g1, g2⟩, hok⟩ := line5 m1
    rw [m1] at h1
    rw [m2] at h2
    rw [m3] at h3
    simp only [decide_eq_true_eq] at m2 m3
    obtain ⟨n, rfl⟩ := Int.eq_ofNat_of_zero_le m2.1
    rw [Int.toNat_natCast]
    have hrg := itP_range w (z := s) (by omega)
    have hlen := itP_len w s
    refine Spec.of_wpx tt_ok Tryd.func17 (by kernel_rfl) rfl ?_
    (repeat' ((conv => whnf); first | refine CondVC.t ?_ | refine CondVC.f ?_ | refine CondVC.dec (fun h => ?_) (fun h => ?_) | refine CondVC.ndec (fun h => ?_) (fun h => ?_) | refine CondVC.mk (fun h => ?_) (fun h => ?_) | refine ArVC.i64 (by first | omega | (simp only; omega)) ?_ | refine SideVC.mk (by first | omega | decide | (simp only; omega) | (simp [slS]; done) | (simp [slS]; omega) | (simp only [byteE_len, mvE_len, strE_len, intE_len, esC_len, List.length_cons, List.length_nil, List.length_append, List.length_replicate, List.length_set, Int.toNat_natCast, and_true] at *; omega)) ?_ | refine LoopN.go ?_ | exact trivial | refine AltVC.mk ?_ ?_ | refine HeldVC.mk rfl ?_ | refine CallVC.pure h1 rfl ?_ | refine CallVC.pure h2 rfl ?_ | refine CallVC.pure h3 rfl ?_ | refine OpVC.more tt_ok ?_ | refine RestVC.ext tt_ok ?_)); all_goals (conv => whnf)
    all_goals try (exfalso; simp_all; done)
    refine LoopVC.mk (G := Nat) (fun i => ⟨[(9, .v (i64 (itP w s i).1)), (1, .v (i64 ((n : Int) - (i : Int)))), (8, .v (.c (.ptr 8 0))), (6, .v (.c (.ptr 6 0))), (0, .v (.c (.str w)))],
        [(3001, .sl 29 3 (esC (itP w s i).2)), (8, .box 34 [.int .i64 (w.length : Nat), .sl 3001]), (6, .box 34 [.int .i64 0, .val (.slice none 0 0)])]⟩)
      (fun i => i ≤ n) (fun i => n - i) 0 (Nat.zero_le _) (Sub.nil 3001 29 3 ⟨rfl, congrArg (fun z => some (E.v (i64 z))) (show (n : Int) = (n : Int) - ((0 : Nat) : Int) by omega), rfl, rfl, rfl, trivial⟩ rfl rfl) ?_
    intro i hi
    by_cases hin : i < n
    · have hz := hrg i
      have hls := hlen i
      have hcl := esC_len (itP w s i).2
      have hst : itP w s (i + 1) = stepP w (itP w s i) := rfl
      have r1 := nxP_range hz
      have n1 := pzNext_spec _ hz
      have n2 := pzNext_spec _ r1
      have r2 := nxP_range r1
      have k6 := tmod_range r1.1 (show (0 : Int) < 6 by decide)
      have k5 := tmod_range r2.1 (show (0 : Int) < (w.length : Nat) by omega)
      have ec : (n : Int) - ((i : Nat) : Int) - 1 = (n : Int) - ((i + 1 : Nat) : Int) := by omega
      by_cases h0 : (nxP (itP w s i).1).tmod 6 = 0
      · have hc := pzOf_spec _ _ w (by omega) hok ⟨k6.1, by omega⟩ (fun _ => k5)
        have e := step_yes (w := w) h0
        rw [e] at hst
        have e1 : (itP w s (i + 1)).1 = nxP (nxP (itP w s i).1) := by rw [hst]
        have e2 : esC (itP w s (i + 1)).2 = esC (itP w s i).2 ++ [clC (clO ((nxP (itP w s i).1).tmod 6) ((nxP (nxP (itP w s i).1)).tmod (w.length : Nat)) w)] := by rw [hst, esC_append]; rfl
        clear hst e
        generalize clO ((nxP (itP w s i).1).tmod 6) ((nxP (nxP (itP w s i).1)).tmod (w.length : Nat)) w = q at *
        generalize nxP (nxP (itP w s i).1) = z2 at *
        generalize nxP (itP w s i).1 = z1 at *
        generalize (itP w s i).1 = z at *
        generalize (itP w s i).2 = l at *
        (repeat' ((conv => whnf); first | refine CondVC.t ?_ | refine CondVC.f ?_ | refine CondVC.dec (fun h => ?_) (fun h => ?_) | refine CondVC.ndec (fun h => ?_) (fun h => ?_) | refine CondVC.mk (fun h => ?_) (fun h => ?_) | refine ArVC.i64 (by first | omega | (simp only; omega)) ?_ | refine SideVC.mk (by first | omega | decide | (simp only; omega) | (simp [slS]; done) | (simp [slS]; omega) | (simp only [byteE_len, mvE_len, strE_len, intE_len, esC_len, List.length_cons, List.length_nil, List.length_append, List.length_replicate, List.length_set, Int.toNat_natCast, and_true] at *; omega)) ?_ | refine LoopN.go ?_ | exact trivial | refine AltVC.mk ?_ ?_ | refine HeldVC.mk rfl ?_ | refine CallVC.pure n1 rfl ?_ | refine CallVC.pure n2 rfl ?_ | refine CallVC.pure hc rfl ?_ | refine SideVC.mk (by simp only [hcl, hls, List.length_cons, List.length_nil]; omega) ?_ | refine DrawVC.tree (id := 12) tt_ok [] trMk (by kernel_rfl) (by kernel_rfl) rfl ?_ | refine OpVC.more tt_ok ?_ | refine RestVC.ext tt_ok ?_)); all_goals (conv => whnf)
        all_goals first
          | (exfalso; omega)
          | exact ⟨i + 1, by omega, by omega, Sub.mk [(3001, 53)] _ ⟨by rw [e1]; rfl, congrArg (fun z => some (E.v (i64 z))) ec, rfl, rfl, rfl, trivial⟩ (by simp only [e2]; rfl) rfl⟩
      · have hc := pzOf_spec _ 0 w (by omega) hok ⟨k6.1, by omega⟩ (fun h => absurd h h0)
        have e := step_no (w := w) h0
        rw [e] at hst
        have e1 : (itP w s (i + 1)).1 = nxP (itP w s i).1 := by rw [hst]
        have e2 : esC (itP w s (i + 1)).2 = esC (itP w s i).2 ++ [clC (clO ((nxP (itP w s i).1).tmod 6) 0 w)] := by rw [hst, esC_append]; rfl
        clear hst e
        generalize clO ((nxP (itP w s i).1).tmod 6) 0 w = q at *
        generalize nxP (itP w s i).1 = z1 at *
        generalize (itP w s i).1 = z at *
        generalize (itP w s i).2 = l at *
        (repeat' ((conv => whnf); first | refine CondVC.t ?_ | refine CondVC.f ?_ | refine CondVC.dec (fun h => ?_) (fun h => ?_) | refine CondVC.ndec (fun h => ?_) (fun h => ?_) | refine CondVC.mk (fun h => ?_) (fun h => ?_) | refine ArVC.i64 (by first | omega | (simp only; omega)) ?_ | refine SideVC.mk (by first | omega | decide | (simp only; omega) | (simp [slS]; done) | (simp [slS]; omega) | (simp only [byteE_len, mvE_len, strE_len, intE_len, esC_len, List.length_cons, List.length_nil, List.length_append, List.length_replicate, List.length_set, Int.toNat_natCast, and_true] at *; omega)) ?_ | refine LoopN.go ?_ | exact trivial | refine AltVC.mk ?_ ?_ | refine HeldVC.mk rfl ?_ | refine CallVC.pure n1 rfl ?_ | refine CallVC.pure hc rfl ?_ | refine SideVC.mk (by simp only [hcl, hls, List.length_cons, List.length_nil]; omega) ?_ | refine DrawVC.tree (id := 12) tt_ok [] trMk (by kernel_rfl) (by kernel_rfl) rfl ?_ | refine OpVC.more tt_ok ?_ | refine RestVC.ext tt_ok ?_)); all_goals (conv => whnf)
        all_goals first
          | (exfalso; omega)
          | exact ⟨i + 1, by omega, by omega, Sub.mk [(3001, 53)] _ ⟨by rw [e1]; rfl, congrArg (fun z => some (E.v (i64 z))) ec, rfl, rfl, rfl, trivial⟩ (by simp only [e2]; rfl) rfl⟩
    · have e : i = n := by omega
      subst e
      (repeat' ((conv => whnf); first | refine CondVC.t ?_ | refine CondVC.f ?_ | refine CondVC.dec (fun h => ?_) (fun h => ?_) | refine CondVC.ndec (fun h => ?_) (fun h => ?_) | refine CondVC.mk (fun h => ?_) (fun h => ?_) | refine ArVC.i64 (by first | omega | (simp only; omega)) ?_ | refine SideVC.mk (by first | omega | decide | (simp only; omega) | (simp [slS]; done) | (simp [slS]; omega) | (simp only [byteE_len, mvE_len, strE_len, intE_len, esC_len, List.length_cons, List.length_nil, List.length_append, List.length_replicate, List.length_set, Int.toNat_natCast, and_true] at *; omega)) ?_ | refine LoopN.go ?_ | exact trivial | refine AltVC.mk ?_ ?_ | refine HeldVC.mk rfl ?_ | refine OpVC.more tt_ok ?_ | refine RestVC.ext tt_ok ?_)); all_goals (conv => whnf)
      all_goals first
        | (exfalso; omega)
        | exact RetVC.ren [(1001, 3001)] [.agg [.int .i64 (w.length : Nat), .sl 1001], vb true] [(1001, .sl 29 3 (esC (itP w s i).2))] rfl rfl rfl ⟨rfl, rfl⟩
theorem mkL_len (w : Tx) (c s : Int) : (mkL w c s).length ≤ 6 := by
  unfold mkL
  split
  · rename_i h
    rw [itP_len]
    unfold mkOk at h
    simp only [Bool.and_eq_true, decide_eq_true_eq] at h
    omega
  · simp
theorem lawMakePuzzle_spec (w : Tx) (hw : w.length ≤ 9223372036854775807) (c s : Int) : Spec Tryd.prog 5 [.c (.str w), i64 c, i64 s] [] (isRes [vb true] []) := by
  refine Spec.of_wpx tt_ok Tryd.func5 (by kernel_rfl) rfl ?_
  by_cases hb : w.length ≤ 1048576
  · have h1 := specMakePuzzle_spec w c s hb
    have h2 := implMakePuzzle_spec w c s hb
    have hl2 := mkL_len w c s
    have heq1 := eqPuzzle_self (mkN w c s) (mkL w c s) (by omega)
    have hm1 := markPuzzle_spec (mkN w c s) (mkL w c s) (by omega)
    have hh1 := heldPuzzle_spec (mkN w c s) (mkL w c s).length (by omega)
    generalize mkN w c s = n2 at *
    generalize mkL w c s = l2 at *
    generalize mkOk w c s = b at *
    cases b
    all_goals
      (repeat' ((conv => whnf); first | refine CondVC.t ?_ | refine CondVC.f ?_ | refine CondVC.dec (fun h => ?_) (fun h => ?_) | refine CondVC.ndec (fun h => ?_) (fun h => ?_) | refine CondVC.mk (fun h => ?_) (fun h => ?_) | refine ArVC.i64 (by first | omega | (simp only; omega)) ?_ | refine SideVC.mk (by first | omega | decide | (simp only; omega) | (simp [slS]; done) | (simp [slS]; omega) | (simp only [byteE_len, mvE_len, strE_len, intE_len, esC_len, List.length_cons, List.length_nil, List.length_append, List.length_replicate, List.length_set, Int.toNat_natCast, and_true] at *; omega)) ?_ | refine LoopN.go ?_ | exact trivial | refine AltVC.mk ?_ ?_ | refine HeldVC.mk rfl ?_ | refine CallVC.res [] rfl (Spec.ren [(1001, 2001)] [(2001, 1001)] h1 rfl rfl rfl) rfl ?_ | refine CallVC.res [] rfl (Spec.ren [(1001, 2002)] [(2002, 1001)] h2 rfl rfl rfl) rfl ?_ | refine CallVC.res [] rfl (Spec.ren [(1001, 2003)] [(2003, 1001)] h2 rfl rfl rfl) rfl ?_ | refine CallVC.res [2002, 2001] rfl (Spec.ren [(1000, 2002), (1001, 2001)] [(2002, 1000), (2001, 1001)] heq1 rfl rfl rfl) rfl ?_ | refine CallVC.res [2003, 2001] rfl (Spec.ren [(1000, 2003), (1001, 2001)] [(2003, 1000), (2001, 1001)] heq1 rfl rfl rfl) rfl ?_ | refine CallVC.res [2002] rfl (Spec.ren [(1000, 2002)] [(2002, 1000)] hm1 rfl rfl rfl) rfl ?_ | refine CallVC.res [2002] rfl (Spec.ren [(1000, 2002)] [(2002, 1000)] hh1 rfl rfl rfl) rfl ?_ | refine OpVC.more tt_ok ?_ | refine RestVC.ext tt_ok ?_)); all_goals (conv => whnf)
      all_goals first | exact RetVC.res rfl rfl | (exfalso; omega) | (exfalso; simp_all; done)
  · (repeat' ((conv => whnf); first | refine CondVC.t ?_ | refine CondVC.f ?_ | refine CondVC.dec (fun h => ?_) (fun h => ?_) | refine CondVC.ndec (fun h => ?_) (fun h => ?_) | refine CondVC.mk (fun h => ?_) (fun h => ?_) | refine ArVC.i64 (by first | omega | (simp only; omega)) ?_ | refine SideVC.mk (by first | omega | decide | (simp only; omega) | (simp [slS]; done) | (simp [slS]; omega) | (simp only [byteE_len, mvE_len, strE_len, intE_len, esC_len, List.length_cons, List.length_nil, List.length_append, List.length_replicate, List.length_set, Int.toNat_natCast, and_true] at *; omega)) ?_ | refine LoopN.go ?_ | exact trivial | refine AltVC.mk ?_ ?_ | refine HeldVC.mk rfl ?_ | refine OpVC.more tt_ok ?_ | refine RestVC.ext tt_ok ?_)); all_goals (conv => whnf)
    all_goals first | exact RetVC.res rfl rfl | (exfalso; omega)
end Go.Proofs.YtmdipjoogcdngaaDoor.X
