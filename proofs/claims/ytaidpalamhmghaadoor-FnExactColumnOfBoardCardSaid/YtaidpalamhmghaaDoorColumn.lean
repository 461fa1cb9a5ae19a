/- FnExactColumnOfBoard: both functions and the law. No condition beyond each statement's. -/
import Derived.Test.YtaidpalamhmghaaDoorCross
namespace Go.Proofs.YtaidpalamhmghaaDoor.X
open Go.Proofs
set_option maxRecDepth 100000
set_option linter.unusedVariables false
set_option linter.unusedSimpArgs false
/-! ### Columns told as rows -/
theorem spl_jnB : ∀ {l : List Tx}, l ≠ [] → (∀ r ∈ l, (47 : UInt8) ∉ r) → spl 47 (jnB l) = l
  | [], h, _ => absurd rfl h
  | [x], _, h => by
    have : jnB [x] = x := by simp [jnB]
    rw [this]; exact spl_none (h x (by simp))
  | x :: y :: r, _, h => by
    rw [jnB_cons, spl_app (h x (by simp)), spl_jnB (by simp) fun z hz => h z (List.mem_cons_of_mem _ hz)]
theorem ok_47 {r : Tx} (h : r.all okCh = true) : (47 : UInt8) ∉ r := fun hm => by
  have := List.all_eq_true.1 h 47 hm
  exact absurd this (by decide)
theorem colX_ok {L : List Tx} {n x : Nat} (hr : ∀ r ∈ L, r.length = n ∧ r.all okCh = true) (hx : x < n) : (colX L x).all okCh = true := by
  unfold colX
  rw [List.all_map, List.all_eq_true]
  intro r hm
  obtain ⟨h1, h2⟩ := hr r hm
  exact all_getD h2 (by omega)
/-- The crossed board is a board, and its rows are the columns. -/
theorem cross_rows {b : Tx} (h : brdF b = true) : brdF (crossF b) = true ∧ spl 47 (crossF b) = colsX (spl 47 b) ((spl 47 b).getD 0 []).length := by
  obtain ⟨⟨f1, f2⟩, ⟨f3, f4⟩, f5⟩ := brd_facts h
  unfold crossF
  rw [h, if_pos rfl, join_jnB]
  generalize spl 47 b = L at *
  generalize (L.getD 0 []).length = n at *
  have hall : ∀ r ∈ colsX L n, r.length = L.length ∧ r.all okCh = true := fun r hr => by
    refine ⟨colsX_each hr, ?_⟩
    obtain ⟨x, hx, rfl⟩ := List.mem_map.1 hr
    exact colX_ok f5 (List.mem_range.1 hx)
  have hcl := colsX_len L n
  have hs := spl_jnB (l := colsX L n) (fun e => by rw [e] at hcl; simp at hcl; omega) fun r hr => ok_47 (hall r hr).2
  refine ⟨?_, hs⟩
  unfold brdF
  rw [hs]
  simp only [Bool.and_eq_true, decide_eq_true_eq, List.all_eq_true]
  refine ⟨by omega, fun r hr => ?_⟩
  have h0 : (colsX L n).getD 0 [] ∈ colsX L n := by
    rw [List.getD_eq_getElem?_getD, List.getElem?_eq_getElem (by omega)]; exact List.getElem_mem (by omega)
  have hl1 := (hall r hr).1
  have hl0 := (hall _ h0).1
  unfold rowOk lineOf
  simp only [Bool.and_eq_true, decide_eq_true_eq]
  exact ⟨⟨by omega, (hall r hr).2⟩, by omega⟩

/-! ### A row of a board -/
def rowIn (b : Tx) (k : Int) : Bool := brdF b && decide (0 ≤ k ∧ k ≤ ((spl 47 b).length : Int) - 1)
def rowAtF (b : Tx) (k : Int) : Tx := if rowIn b k then (spl 47 b).getD k.toNat [] else []
theorem implRow_spec (b : Tx) (k : Int) (hb : b.length ≤ 1048576) : Spec Tryd.prog 85 [.c (.str b), i64 k] [] (isRes [.c (.str (rowAtF b k)), vb (rowIn b k)] []) := by
  have h1 := implIsBoard_spec b hb
  unfold rowAtF rowIn
  cases hq : brdF b with
  | false =>
    rw [hq] at h1
    refine Spec.of_wpx tt_ok Tryd.func85 (by kernel_rfl) rfl ?_
    (repeat' ((conv => whnf); first | refine CondVC.t ?_ | refine CondVC.f ?_ | refine CondVC.dec (fun h => ?_) (fun h => ?_) | refine CondVC.ndec (fun h => ?_) (fun h => ?_) | refine CondVC.mk (fun h => ?_) (fun h => ?_) | refine ArVC.i64 (by first | omega | (simp only; omega)) ?_ | refine SideVC.mk (by first | omega | decide | (simp only; omega) | (simp [slS]; done) | (simp [slS]; omega) | (simp only [byteE_len, mvE_len, strE_len, intE_len, esC_len, List.length_cons, List.length_nil, List.length_append, List.length_replicate, List.length_set, Int.toNat_natCast, and_true] at *; omega)) ?_ | refine LoopN.go ?_ | exact trivial | refine AltVC.mk ?_ ?_ | refine HeldVC.mk rfl ?_ | refine CallVC.pure h1 rfl ?_ | refine OpVC.more tt_ok ?_ | refine RestVC.ext tt_ok ?_)); all_goals (conv => whnf)
    all_goals exact RetVC.res rfl rfl
  | true =>
    rw [hq] at h1
    obtain ⟨⟨f1, f2⟩, ⟨f3, f4⟩, f5⟩ := brd_facts hq
    have h2 := boardOf_spec b (by have := brd_len hq; omega)
    have h5 := Spec.ren [(1001, 2001)] [(2001, 1001)] (split_spec b 47 (by have := brd_len hq; omega)) rfl rfl rfl
    generalize spl 47 b = L at *
    generalize hn : (L.getD 0 []).length = n at *
    have hfl := flatten_len (rows := L) (n := n) fun r hr => (f5 r hr).1
    have h3 := high_spec L.flatten n L.length f3 hfl (by omega)
    have h4 := within_spec k 0 ((L.length : Int) - 1)
    have hll := strE_len L
    generalize L.flatten = t at *
    by_cases hin : 0 ≤ k ∧ k ≤ (L.length : Int) - 1
    · rw [decide_eq_true hin] at h4 ⊢
      rw [Bool.true_and, if_pos rfl]
      obtain ⟨i, rfl⟩ := Int.eq_ofNat_of_zero_le hin.1
      have hi : i < L.length := by omega
      have g1 : (strE L)[(i : Int).toNat]? = some [.str (L.getD (i : Int).toNat [])] := by
        rw [Int.toNat_natCast, strE_get hi, List.getD_eq_getElem?_getD, List.getElem?_eq_getElem hi]; rfl
      generalize L.getD (i : Int).toNat [] = z at *
      refine Spec.of_wpx tt_ok Tryd.func85 (by kernel_rfl) rfl ?_
      (repeat' ((conv => whnf); first | refine CondVC.t ?_ | refine CondVC.f ?_ | refine CondVC.dec (fun h => ?_) (fun h => ?_) | refine CondVC.ndec (fun h => ?_) (fun h => ?_) | refine CondVC.mk (fun h => ?_) (fun h => ?_) | refine ArVC.i64 (by first | omega | (simp only; omega)) ?_ | refine SideVC.mk (by first | omega | decide | (simp only; omega) | (simp [slS]; done) | (simp [slS]; omega) | (simp only [byteE_len, mvE_len, strE_len, intE_len, esC_len, List.length_cons, List.length_nil, List.length_append, List.length_replicate, List.length_set, Int.toNat_natCast, and_true] at *; omega)) ?_ | refine LoopN.go ?_ | exact trivial | refine AltVC.mk ?_ ?_ | refine HeldVC.mk rfl ?_ | refine CallVC.pure h1 rfl ?_ | refine CallVC.pure h2 rfl ?_ | refine CallVC.pure h3 rfl ?_ | refine CallVC.pure h4 rfl ?_ | refine CallVC.res [] rfl h5 rfl ?_ | refine LoadVC.mk _ g1 ?_ | refine SideVC.mk (by rw [hll]; omega) ?_ | refine OpVC.more tt_ok ?_ | refine RestVC.ext tt_ok ?_)); all_goals (conv => whnf)
      all_goals first
        | (exfalso; omega)
        | exact RetVC.res rfl rfl
    · rw [decide_eq_false hin] at h4 ⊢
      rw [Bool.true_and, if_neg Bool.false_ne_true]
      refine Spec.of_wpx tt_ok Tryd.func85 (by kernel_rfl) rfl ?_
      (repeat' ((conv => whnf); first | refine CondVC.t ?_ | refine CondVC.f ?_ | refine CondVC.dec (fun h => ?_) (fun h => ?_) | refine CondVC.ndec (fun h => ?_) (fun h => ?_) | refine CondVC.mk (fun h => ?_) (fun h => ?_) | refine ArVC.i64 (by first | omega | (simp only; omega)) ?_ | refine SideVC.mk (by first | omega | decide | (simp only; omega) | (simp [slS]; done) | (simp [slS]; omega) | (simp only [byteE_len, mvE_len, strE_len, intE_len, esC_len, List.length_cons, List.length_nil, List.length_append, List.length_replicate, List.length_set, Int.toNat_natCast, and_true] at *; omega)) ?_ | refine LoopN.go ?_ | exact trivial | refine AltVC.mk ?_ ?_ | refine HeldVC.mk rfl ?_ | refine CallVC.pure h1 rfl ?_ | refine CallVC.pure h2 rfl ?_ | refine CallVC.pure h3 rfl ?_ | refine CallVC.pure h4 rfl ?_ | refine OpVC.more tt_ok ?_ | refine RestVC.ext tt_ok ?_)); all_goals (conv => whnf)
      all_goals first
        | (exfalso; omega)
        | exact RetVC.res rfl rfl

/-! ### A column of a board -/
def colIn (b : Tx) (k : Int) : Bool := brdF b && decide (0 ≤ k ∧ k ≤ (((spl 47 b).getD 0 []).length : Int) - 1)
def colAtF (b : Tx) (k : Int) : Tx := if colIn b k then colX (spl 47 b) k.toNat else []
theorem row_col {b : Tx} {k : Int} (h : brdF b = true) : rowIn (crossF b) k = colIn b k ∧ rowAtF (crossF b) k = colAtF b k := by
  obtain ⟨h1, h2⟩ := cross_rows h
  have e : rowIn (crossF b) k = colIn b k := by unfold rowIn colIn; rw [h, h1, h2, colsX_len]
  refine ⟨e, ?_⟩
  unfold rowAtF colAtF
  rw [e, h2]
  cases hc : colIn b k with
  | false => rfl
  | true =>
    unfold colIn at hc
    simp only [Bool.and_eq_true, decide_eq_true_eq] at hc
    rw [if_pos rfl, if_pos rfl]
    unfold colsX
    rw [List.getD_eq_getElem?_getD, List.getElem?_map, List.getElem?_range (by omega)]
    rfl
theorem cross_len {b : Tx} (h : brdF b = true) : (crossF b).length ≤ 1000 := by have := brd_len (cross_rows h).1; omega
theorem implColumn_spec (b : Tx) (k : Int) (hb : b.length ≤ 1048576) : Spec Tryd.prog 32 [.c (.str b), i64 k] [] (isRes [.c (.str (colAtF b k)), vb (colIn b k)] []) := by
  have h1 := implCrossBoard_spec b hb
  cases hq : brdF b with
  | false =>
    have e1 : colIn b k = false := by unfold colIn; rw [hq]; rfl
    have e2 : colAtF b k = [] := by unfold colAtF; rw [e1]; rfl
    rw [e1, e2]
    rw [hq] at h1
    generalize crossF b = c at *
    refine Spec.of_wpx tt_ok Tryd.func32 (by kernel_rfl) rfl ?_
    (repeat' ((conv => whnf); first | refine CondVC.t ?_ | refine CondVC.f ?_ | refine CondVC.dec (fun h => ?_) (fun h => ?_) | refine CondVC.ndec (fun h => ?_) (fun h => ?_) | refine CondVC.mk (fun h => ?_) (fun h => ?_) | refine ArVC.i64 (by first | omega | (simp only; omega)) ?_ | refine SideVC.mk (by first | omega | decide | (simp only; omega) | (simp [slS]; done) | (simp [slS]; omega) | (simp only [byteE_len, mvE_len, strE_len, intE_len, esC_len, List.length_cons, List.length_nil, List.length_append, List.length_replicate, List.length_set, Int.toNat_natCast, and_true] at *; omega)) ?_ | refine LoopN.go ?_ | exact trivial | refine AltVC.mk ?_ ?_ | refine HeldVC.mk rfl ?_ | refine CallVC.pure h1 rfl ?_ | refine OpVC.more tt_ok ?_ | refine RestVC.ext tt_ok ?_)); all_goals (conv => whnf)
    all_goals exact RetVC.res rfl rfl
  | true =>
    rw [hq] at h1
    have h2 := implRow_spec (crossF b) k (by have := cross_len hq; omega)
    rw [(row_col hq).1, (row_col hq).2] at h2
    generalize crossF b = c at *
    generalize colAtF b k = t at *
    generalize colIn b k = q at *
    refine Spec.of_wpx tt_ok Tryd.func32 (by kernel_rfl) rfl ?_
    (repeat' ((conv => whnf); first | refine CondVC.t ?_ | refine CondVC.f ?_ | refine CondVC.dec (fun h => ?_) (fun h => ?_) | refine CondVC.ndec (fun h => ?_) (fun h => ?_) | refine CondVC.mk (fun h => ?_) (fun h => ?_) | refine ArVC.i64 (by first | omega | (simp only; omega)) ?_ | refine SideVC.mk (by first | omega | decide | (simp only; omega) | (simp [slS]; done) | (simp [slS]; omega) | (simp only [byteE_len, mvE_len, strE_len, intE_len, esC_len, List.length_cons, List.length_nil, List.length_append, List.length_replicate, List.length_set, Int.toNat_natCast, and_true] at *; omega)) ?_ | refine LoopN.go ?_ | exact trivial | refine AltVC.mk ?_ ?_ | refine HeldVC.mk rfl ?_ | refine CallVC.pure h1 rfl ?_ | refine CallVC.pure h2 rfl ?_ | refine OpVC.more tt_ok ?_ | refine RestVC.ext tt_ok ?_)); all_goals (conv => whnf)
    all_goals exact RetVC.res rfl rfl
theorem specColumn_spec (b : Tx) (k : Int) (hb : b.length ≤ 1048576) : Spec Tryd.prog 31 [.c (.str b), i64 k] [] (isRes [.c (.str (colAtF b k)), vb (colIn b k)] []) := by
  have h1 := Spec.ren [(1001, 2001)] [(2001, 1001)] (boRows_spec b hb) rfl rfl rfl
  unfold brdL at h1
  unfold colAtF colIn
  cases hq : brdF b with
  | false =>
    rw [hq] at h1
    rw [if_neg Bool.false_ne_true] at h1
    refine Spec.of_wpx tt_ok Tryd.func31 (by kernel_rfl) rfl ?_
    (repeat' ((conv => whnf); first | refine CondVC.t ?_ | refine CondVC.f ?_ | refine CondVC.dec (fun h => ?_) (fun h => ?_) | refine CondVC.ndec (fun h => ?_) (fun h => ?_) | refine CondVC.mk (fun h => ?_) (fun h => ?_) | refine ArVC.i64 (by first | omega | (simp only; omega)) ?_ | refine SideVC.mk (by first | omega | decide | (simp only; omega) | (simp [slS]; done) | (simp [slS]; omega) | (simp only [byteE_len, mvE_len, strE_len, intE_len, esC_len, List.length_cons, List.length_nil, List.length_append, List.length_replicate, List.length_set, Int.toNat_natCast, and_true] at *; omega)) ?_ | refine LoopN.go ?_ | exact trivial | refine AltVC.mk ?_ ?_ | refine HeldVC.mk rfl ?_ | refine CallVC.res [] rfl h1 rfl ?_ | refine OpVC.more tt_ok ?_ | refine RestVC.ext tt_ok ?_)); all_goals (conv => whnf)
    all_goals first | exact RetVC.res rfl rfl | (exfalso; simp_all; done)
  | true =>
    rw [hq, if_pos rfl] at h1
    obtain ⟨⟨f1, f2⟩, ⟨f3, f4⟩, f5⟩ := brd_facts hq
    generalize spl 47 b = L at *
    have hok0 : (L.getD 0 []).all okCh = true := (f5 _ (by rw [List.getD_eq_getElem?_getD, List.getElem?_eq_getElem (by omega)]; exact List.getElem_mem (by omega))).2
    have h2 := Spec.ren [(1000, 2001), (1001, 2002)] [(2001, 1000), (2002, 1001)] (boCross_spec L (L.getD 0 []).length (fun r hr => (f5 r hr).1) hok0 f3 (by omega) f1 (by omega)) rfl rfl rfl
    have h3 := l1In_spec k 0 (((L.getD 0 []).length : Int) - 1)
    have hll := strE_len L
    have g0 : (strE L)[(0 : Int).toNat]? = some [.str (L.getD 0 [])] := by
      rw [show (0 : Int).toNat = 0 from rfl, strE_get (by omega), List.getD_eq_getElem?_getD, List.getElem?_eq_getElem (by omega)]; rfl
    have hcl := strE_len (colsX L (L.getD 0 []).length)
    rw [colsX_len] at hcl
    have hcg : ∀ i (hi : i < (L.getD 0 []).length), (strE (colsX L (L.getD 0 []).length))[i]? = some [.str (colX L i)] := fun i hi => by
      rw [strE_get (by rw [colsX_len]; exact hi)]; simp [colsX]
    generalize hw : L.getD 0 [] = w0 at *
    generalize strE (colsX L w0.length) = S at *
    by_cases hin : 0 ≤ k ∧ k ≤ (w0.length : Int) - 1
    · rw [decide_eq_true hin] at h3 ⊢
      rw [Bool.true_and, if_pos rfl]
      obtain ⟨i, rfl⟩ := Int.eq_ofNat_of_zero_le hin.1
      have g1 : S[(i : Int).toNat]? = some [.str (colX L (i : Int).toNat)] := by rw [Int.toNat_natCast]; exact hcg i (by omega)
      generalize colX L (i : Int).toNat = z at *
      refine Spec.of_wpx tt_ok Tryd.func31 (by kernel_rfl) rfl ?_
      (repeat' ((conv => whnf); first | refine CondVC.t ?_ | refine CondVC.f ?_ | refine CondVC.dec (fun h => ?_) (fun h => ?_) | refine CondVC.ndec (fun h => ?_) (fun h => ?_) | refine CondVC.mk (fun h => ?_) (fun h => ?_) | refine ArVC.i64 (by first | omega | (simp only; omega)) ?_ | refine SideVC.mk (by first | omega | decide | (simp only; omega) | (simp [slS]; done) | (simp [slS]; omega) | (simp only [byteE_len, mvE_len, strE_len, intE_len, esC_len, List.length_cons, List.length_nil, List.length_append, List.length_replicate, List.length_set, Int.toNat_natCast, and_true] at *; omega)) ?_ | refine LoopN.go ?_ | exact trivial | refine AltVC.mk ?_ ?_ | refine HeldVC.mk rfl ?_ | refine CallVC.res [] rfl h1 rfl ?_ | refine CallVC.res [2001] rfl h2 rfl ?_ | refine CallVC.pure h3 rfl ?_ | refine LoadVC.mk _ g0 ?_ | refine LoadVC.mk _ g1 ?_ | refine SideVC.mk (by rw [hll]; omega) ?_ | refine SideVC.mk (by rw [hcl]; omega) ?_ | refine OpVC.more tt_ok ?_ | refine RestVC.ext tt_ok ?_)); all_goals (conv => whnf)
      all_goals first
        | (exfalso; omega)
        | exact RetVC.res rfl rfl
    · rw [decide_eq_false hin] at h3 ⊢
      rw [Bool.true_and, if_neg Bool.false_ne_true]
      refine Spec.of_wpx tt_ok Tryd.func31 (by kernel_rfl) rfl ?_
      (repeat' ((conv => whnf); first | refine CondVC.t ?_ | refine CondVC.f ?_ | refine CondVC.dec (fun h => ?_) (fun h => ?_) | refine CondVC.ndec (fun h => ?_) (fun h => ?_) | refine CondVC.mk (fun h => ?_) (fun h => ?_) | refine ArVC.i64 (by first | omega | (simp only; omega)) ?_ | refine SideVC.mk (by first | omega | decide | (simp only; omega) | (simp [slS]; done) | (simp [slS]; omega) | (simp only [byteE_len, mvE_len, strE_len, intE_len, esC_len, List.length_cons, List.length_nil, List.length_append, List.length_replicate, List.length_set, Int.toNat_natCast, and_true] at *; omega)) ?_ | refine LoopN.go ?_ | exact trivial | refine AltVC.mk ?_ ?_ | refine HeldVC.mk rfl ?_ | refine CallVC.res [] rfl h1 rfl ?_ | refine CallVC.pure h3 rfl ?_ | refine LoadVC.mk _ g0 ?_ | refine SideVC.mk (by rw [hll]; omega) ?_ | refine OpVC.more tt_ok ?_ | refine RestVC.ext tt_ok ?_)); all_goals (conv => whnf)
      all_goals first
        | (exfalso; omega)
        | exact RetVC.res rfl rfl
theorem lawColumnOfBoard_spec (b : Tx) (hb : b.length ≤ 9223372036854775807) (k : Int) : Spec Tryd.prog 6 [.c (.str b), i64 k] [] (isRes [vb true] []) := by
  refine Spec.of_wpx tt_ok Tryd.func6 (by kernel_rfl) rfl ?_
  by_cases h : b.length ≤ 1048576
  · have h1 := specColumn_spec b k h
    have h2 := implColumn_spec b k h
    generalize colAtF b k = t at *
    generalize colIn b k = q at *
    (repeat' ((conv => whnf); first | refine CondVC.t ?_ | refine CondVC.f ?_ | refine CondVC.dec (fun h => ?_) (fun h => ?_) | refine CondVC.ndec (fun h => ?_) (fun h => ?_) | refine CondVC.mk (fun h => ?_) (fun h => ?_) | refine ArVC.i64 (by first | omega | (simp only; omega)) ?_ | refine SideVC.mk (by first | omega | decide | (simp only; omega) | (simp [slS]; done) | (simp [slS]; omega) | (simp only [byteE_len, mvE_len, strE_len, intE_len, esC_len, List.length_cons, List.length_nil, List.length_append, List.length_replicate, List.length_set, Int.toNat_natCast, and_true] at *; omega)) ?_ | refine LoopN.go ?_ | exact trivial | refine AltVC.mk ?_ ?_ | refine HeldVC.mk rfl ?_ | refine CallVC.pure h1 rfl ?_ | refine CallVC.pure h2 rfl ?_ | refine OpVC.more tt_ok ?_ | refine RestVC.ext tt_ok ?_)); all_goals (conv => whnf)
    all_goals first | exact RetVC.res rfl rfl | (exfalso; omega) | (exfalso; simp_all; done)
  · (repeat' ((conv => whnf); first | refine CondVC.t ?_ | refine CondVC.f ?_ | refine CondVC.dec (fun h => ?_) (fun h => ?_) | refine CondVC.ndec (fun h => ?_) (fun h => ?_) | refine CondVC.mk (fun h => ?_) (fun h => ?_) | refine ArVC.i64 (by first | omega | (simp only; omega)) ?_ | refine SideVC.mk (by first | omega | decide | (simp only; omega) | (simp [slS]; done) | (simp [slS]; omega) | (simp only [byteE_len, mvE_len, strE_len, intE_len, esC_len, List.length_cons, List.length_nil, List.length_append, List.length_replicate, List.length_set, Int.toNat_natCast, and_true] at *; omega)) ?_ | refine LoopN.go ?_ | exact trivial | refine AltVC.mk ?_ ?_ | refine HeldVC.mk rfl ?_ | refine OpVC.more tt_ok ?_ | refine RestVC.ext tt_ok ?_)); all_goals (conv => whnf)
    all_goals first | exact RetVC.res rfl rfl | (exfalso; omega)
end Go.Proofs.YtaidpalamhmghaaDoor.X
