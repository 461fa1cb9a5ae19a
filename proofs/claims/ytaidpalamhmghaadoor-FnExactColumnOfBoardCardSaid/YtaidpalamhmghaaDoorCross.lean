/- FnExactCrossBoard: both functions and the law. No condition beyond each statement's. -/
import Derived.Test.YtaidpalamhmghaaDoorReplS
import Derived.Test.YtaidpalamhmghaaDoorBdO
namespace Go.Proofs.YtaidpalamhmghaaDoor.X
open Go.Proofs
set_option maxRecDepth 100000
set_option linter.unusedVariables false
set_option linter.unusedSimpArgs false
/-! ### A board's cells -/
theorem dropS_spl (c : UInt8) : ∀ s : Tx, dropS c s = (spl c s).flatten
  | [] => rfl
  | b :: r => by
    have ih := dropS_spl c r
    unfold spl
    split
    · rename_i h
      subst h
      rw [List.flatten_cons, List.nil_append, ← ih]
      simp [dropS]
    · rename_i h
      have e : dropS c (b :: r) = b :: dropS c r := by
        have hb : (b == c) = false := by simp [h]
        unfold dropS; rw [List.filter_cons, hb]; rfl
      rw [e, ih]
      split
      · rename_i x xs e2
        rw [e2]; simp
      · rename_i e2; exact absurd e2 (spl_ne c r)
theorem wide_spl (c : UInt8) : ∀ s : Tx, Lib.indexByte (s ++ [c]) c = (((spl c s).getD 0 []).length : Nat)
  | [] => by simp [Lib.indexByte, spl]
  | b :: r => by
    have ih := wide_spl c r
    rw [List.cons_append]
    unfold Lib.indexByte spl
    by_cases h : b = c
    · subst h; simp
    · have hb : (b == c) = false := by simp [h]
      rw [hb, if_neg h, ih]
      cases hs : spl c r with
      | nil => exact absurd hs (spl_ne c r)
      | cons x xs =>
        have hj : (((((x :: xs).getD 0 []).length : Nat) : Int) == -1) = false := by rw [beq_eq_false_iff_ne]; omega
        simp only [Bool.false_eq_true, if_false, hj]
        simp
theorem boardOf_spec (b : Tx) (hb : b.length ≤ 1000) : Spec Tryd.prog 81 [.c (.str b)] [] (isRes [.agg [.str (spl 47 b).flatten, .int .i64 (((spl 47 b).getD 0 []).length : Nat)]] []) := by
  have h1 := index_spec1 (b ++ [47]) 47
  have h2 := replaceAll_spec b 47 (by omega)
  rw [wide_spl] at h1
  rw [dropS_spl] at h2
  generalize ((spl 47 b).getD 0 []).length = n at *
  generalize (spl 47 b).flatten = t at *
  refine Spec.of_wpx tt_ok Tryd.func81 (by kernel_rfl) rfl ?_
  (repeat' ((conv => whnf); first | refine CondVC.t ?_ | refine CondVC.f ?_ | refine CondVC.dec (fun h => ?_) (fun h => ?_) | refine CondVC.ndec (fun h => ?_) (fun h => ?_) | refine CondVC.mk (fun h => ?_) (fun h => ?_) | refine ArVC.i64 (by first | omega | (simp only; omega)) ?_ | refine SideVC.mk (by first | omega | decide | (simp only; omega) | (simp [slS]; done) | (simp [slS]; omega) | (simp only [byteE_len, mvE_len, strE_len, intE_len, esC_len, List.length_cons, List.length_nil, List.length_append, List.length_replicate, List.length_set, Int.toNat_natCast, and_true] at *; omega)) ?_ | refine LoopN.go ?_ | exact trivial | refine AltVC.mk ?_ ?_ | refine HeldVC.mk rfl ?_ | refine CallVC.pure h1 rfl ?_ | refine CallVC.pure h2 rfl ?_ | refine OpVC.more tt_ok ?_ | refine RestVC.ext tt_ok ?_)); all_goals (conv => whnf)
  all_goals exact RetVC.res rfl rfl
theorem high_spec (t : Tx) (n h : Nat) (hn : 1 ≤ n) (ht : t.length = h * n) (hb : h ≤ 1000000) : Spec Tryd.prog 125 [.agg [.str t, .int .i64 (n : Nat)]] [] (isRes [i64 (h : Nat)] []) := by
  have hd : ((t.length : Nat) : Int).tdiv (n : Int) = (h : Int) := by
    rw [ht]; push_cast
    exact Int.mul_tdiv_cancel _ (by omega)
  have hwp : IntKind.i64.wrap (h : Int) = h := (IntWalk.i64_left _).trans (IntWalk.wrap64_in _ ⟨by omega, by omega⟩)
  refine Spec.of_wpx tt_ok Tryd.func125 (by kernel_rfl) rfl ?_
  (repeat' ((conv => whnf); first | refine CondVC.t ?_ | refine CondVC.f ?_ | refine CondVC.dec (fun h => ?_) (fun h => ?_) | refine CondVC.ndec (fun h => ?_) (fun h => ?_) | refine CondVC.mk (fun h => ?_) (fun h => ?_) | refine ArVC.i64 (by first | omega | (simp only; omega)) ?_ | refine SideVC.mk (by first | omega | decide | (simp only; omega) | (simp [slS]; done) | (simp [slS]; omega) | (simp only [byteE_len, mvE_len, strE_len, intE_len, esC_len, List.length_cons, List.length_nil, List.length_append, List.length_replicate, List.length_set, Int.toNat_natCast, and_true] at *; omega)) ?_ | refine LoopN.go ?_ | exact trivial | refine AltVC.mk ?_ ?_ | refine HeldVC.mk rfl ?_ | refine SideVC.mk (by omega) ?_ | refine OpVC.more tt_ok ?_ | refine RestVC.ext tt_ok ?_)); all_goals (conv => whnf)
  all_goals exact RetVC.res (by rw [hd, hwp]; rfl) rfl
/-! ### Rows and columns taken for each other -/
def colX (L : List Tx) (x : Nat) : Tx := L.map fun r => r.getD x 0
def colsX (L : List Tx) (n : Nat) : List Tx := (List.range n).map (colX L)
theorem colX_len (L : List Tx) (x : Nat) : (colX L x).length = L.length := by simp [colX]
theorem colsX_len (L : List Tx) (n : Nat) : (colsX L n).length = n := by simp [colsX]
theorem colsX_succ (L : List Tx) (n : Nat) : colsX L (n + 1) = colsX L n ++ [colX L n] := by simp [colsX, List.range_succ]
theorem colsX_each {L : List Tx} {n : Nat} {r : Tx} (h : r ∈ colsX L n) : r.length = L.length := by
  obtain ⟨x, _, rfl⟩ := List.mem_map.1 h
  exact colX_len L x
theorem colX_take {L : List Tx} {x y : Nat} (h : y < L.length) : (colX L x).take (y + 1) = (colX L x).take y ++ [L[y].getD x 0] := by
  rw [List.take_succ_eq_append_getElem (by rw [colX_len]; exact h)]
  simp [colX]
theorem cell_at {L : List Tx} {n x y : Nat} (hr : ∀ r ∈ L, r.length = n) (hy : y < L.length) (hx : x < n) : L.flatten.getD (y * n + x) 0 = L[y].getD x 0 := by
  have h := flatten_cut (rows := L) (k := y) hr hy
  have hl : (L[y]).length = n := hr _ (List.getElem_mem hy)
  rw [← h, List.getD_eq_getElem?_getD, List.getD_eq_getElem?_getD, List.getElem?_drop, List.getElem?_take]
  rw [if_pos (by omega)]
theorem sign_spec (L : List Tx) (n x y : Nat) (hr : ∀ r ∈ L, r.length = n) (hn : 1 ≤ n) (hn2 : n ≤ 1000) (hl : L.length ≤ 1000) (hy : y < L.length) (hx : x < n) :
    Spec Tryd.prog 126 [.agg [.str L.flatten, .int .i64 (n : Nat)], i64 (x : Nat), i64 (y : Nat)] [] (isRes [.c (.int .u8 ((L[y].getD x 0).toNat : Nat))] []) := by
  have hfl := flatten_len hr
  have h1 := within_spec (x : Nat) 0 ((n : Int) - 1)
  have h2 := within_spec (y : Nat) 0 ((L.length : Int) - 1)
  have h3 := high_spec L.flatten n L.length hn hfl (by omega)
  rw [decide_eq_true (by omega)] at h1 h2
  have hc := cell_at hr hy hx
  have hb : y * n + x < L.length * n := by
    have : (y + 1) * n ≤ L.length * n := Nat.mul_le_mul_right n hy
    rw [Nat.succ_mul] at this; omega
  have hb2 : y * n ≤ 1000 * 1000 := Nat.mul_le_mul (by omega) hn2
  have he : ((y : Int) * (n : Int) + (x : Int)).toNat = y * n + x := by
    rw [show (y : Int) * (n : Int) + (x : Int) = ((y * n + x : Nat) : Int) by push_cast; rfl]; exact Int.toNat_natCast _
  have hm : (y : Int) * (n : Int) = ((y * n : Nat) : Int) := by push_cast; rfl
  rw [← he] at hc
  generalize L[y] = r at *
  generalize hL : L.flatten = t at *
  generalize L.length * n = q at *
  generalize y * n = z at *
  refine Spec.of_wpx tt_ok Tryd.func126 (by kernel_rfl) rfl ?_
  (repeat' ((conv => whnf); first | refine CondVC.t ?_ | refine CondVC.f ?_ | refine CondVC.dec (fun h => ?_) (fun h => ?_) | refine CondVC.ndec (fun h => ?_) (fun h => ?_) | refine CondVC.mk (fun h => ?_) (fun h => ?_) | refine ArVC.i64 (by first | omega | (simp only; omega)) ?_ | refine SideVC.mk (by first | omega | decide | (simp only; omega) | (simp [slS]; done) | (simp [slS]; omega) | (simp only [byteE_len, mvE_len, strE_len, intE_len, esC_len, List.length_cons, List.length_nil, List.length_append, List.length_replicate, List.length_set, Int.toNat_natCast, and_true] at *; omega)) ?_ | refine LoopN.go ?_ | exact trivial | refine AltVC.mk ?_ ?_ | refine HeldVC.mk rfl ?_ | refine CallVC.pure h1 rfl ?_ | refine CallVC.pure h2 rfl ?_ | refine CallVC.pure h3 rfl ?_ | refine ArVC.i64 (by rw [hm]; omega) ?_ | refine SideVC.mk (by rw [hm]; omega) ?_ | refine OpVC.more tt_ok ?_ | refine RestVC.ext tt_ok ?_)); all_goals (conv => whnf)
  all_goals first
    | (exfalso; omega)
    | exact RetVC.res (by rw [hc]) rfl
set_option maxHeartbeats 4000000 in
theorem crossed_spec (L : List Tx) (n : Nat) (hr : ∀ r ∈ L, r.length = n) (hn : 1 ≤ n) (hn2 : n ≤ 1000) (h1l : 1 ≤ L.length) (hl : L.length ≤ 1000) :
    Spec Tryd.prog 82 [.agg [.str L.flatten, .int .i64 (n : Nat)]] [] (isRes [.agg [.str (colsX L n).flatten, .int .i64 (L.length : Nat)]] []) := by
  have hfl := flatten_len hr
  have h3 := high_spec L.flatten n L.length hn hfl (by omega)
  have hs : ∀ x y (hx : x < n) (hy : y < L.length), _ := fun x y hx hy => sign_spec L n x y hr hn hn2 hl hy hx
  have hcl : ∀ k, (colsX L k).flatten.length = k * L.length := fun k => by
    rw [flatten_len (rows := colsX L k) (n := L.length) fun r hr => colsX_each hr, colsX_len]
  generalize L.flatten = t at *
  refine Spec.of_wpx tt_ok Tryd.func82 (by kernel_rfl) rfl ?_
  (repeat' ((conv => whnf); first | refine CondVC.t ?_ | refine CondVC.f ?_ | refine CondVC.dec (fun h => ?_) (fun h => ?_) | refine CondVC.ndec (fun h => ?_) (fun h => ?_) | refine CondVC.mk (fun h => ?_) (fun h => ?_) | refine ArVC.i64 (by first | omega | (simp only; omega)) ?_ | refine SideVC.mk (by first | omega | decide | (simp only; omega) | (simp [slS]; done) | (simp [slS]; omega) | (simp only [byteE_len, mvE_len, strE_len, intE_len, esC_len, List.length_cons, List.length_nil, List.length_append, List.length_replicate, List.length_set, Int.toNat_natCast, and_true] at *; omega)) ?_ | refine LoopN.go ?_ | exact trivial | refine AltVC.mk ?_ ?_ | refine HeldVC.mk rfl ?_ | refine OpVC.more tt_ok ?_ | refine RestVC.ext tt_ok ?_)); all_goals (conv => whnf)
  refine LoopVC.mk (G := Nat) (fun k => ⟨[(9, .v (i64 k)), (8, .v (i64 n)), (3, .v (.c (.sl 3001))), (1, .v (.c (.ptr 1 0))), (2, .v (.c (.ptr 2 0)))], [(1, .box 89 [.str t, .int .i64 (n : Nat)]), (2, .box 89 [.str [], .int .i64 0]), (3001, .sl 5 1 (byteE (colsX L k).flatten))]⟩)
    (fun k => k ≤ n) (fun k => n - k) 0 (by omega) (Sub.mk [(3001, 6)] _ ⟨rfl, rfl, rfl, rfl, rfl, trivial⟩ rfl rfl) ?_
  intro k hk
  by_cases hlt : k < n
  · (repeat' ((conv => whnf); first | refine CondVC.t ?_ | refine CondVC.f ?_ | refine CondVC.dec (fun h => ?_) (fun h => ?_) | refine CondVC.ndec (fun h => ?_) (fun h => ?_) | refine CondVC.mk (fun h => ?_) (fun h => ?_) | refine ArVC.i64 (by first | omega | (simp only; omega)) ?_ | refine SideVC.mk (by first | omega | decide | (simp only; omega) | (simp [slS]; done) | (simp [slS]; omega) | (simp only [byteE_len, mvE_len, strE_len, intE_len, esC_len, List.length_cons, List.length_nil, List.length_append, List.length_replicate, List.length_set, Int.toNat_natCast, and_true] at *; omega)) ?_ | refine LoopN.go ?_ | exact trivial | refine AltVC.mk ?_ ?_ | refine HeldVC.mk rfl ?_ | refine CallVC.pure h3 rfl ?_ | refine OpVC.more tt_ok ?_ | refine RestVC.ext tt_ok ?_)); all_goals (conv => whnf)
    all_goals try (exfalso; omega)
    refine LoopVC.mk (G := Nat) (fun j => ⟨[(14, .v (i64 j)), (13, .v (i64 L.length)), (4, .v (i64 k)), (9, .v (i64 k)), (8, .v (i64 n)), (3, .v (.c (.sl 3001))), (1, .v (.c (.ptr 1 0))), (2, .v (.c (.ptr 2 0)))], [(1, .box 89 [.str t, .int .i64 (n : Nat)]), (2, .box 89 [.str [], .int .i64 0]), (3001, .sl 5 1 (byteE ((colsX L k).flatten ++ (colX L k).take j)))]⟩)
      (fun j => j ≤ L.length) (fun j => L.length - j) 0 (by omega) (Sub.mk [] _ ⟨rfl, rfl, rfl, rfl, rfl, rfl, rfl, rfl, trivial⟩ (by rw [List.take_zero, List.append_nil]; rfl) rfl) ?_
    intro j hj
    have hbl : (byteE ((colsX L k).flatten ++ (colX L k).take j)).length ≤ 2000000 := by
      rw [byteE_len, List.length_append, hcl, List.length_take]
      have : k * L.length ≤ 1000 * 1000 := Nat.mul_le_mul (by omega) hl
      omega
    by_cases hjl : j < L.length
    · have h4 := hs k j hlt hjl
      have he : byteE ((colsX L k).flatten ++ (colX L k).take (j + 1)) = byteE ((colsX L k).flatten ++ (colX L k).take j) ++ [[byteC (L[j].getD k 0)]] := by
        rw [colX_take hjl, ← List.append_assoc]; simp [byteE]
      generalize L[j].getD k 0 = z at *
      generalize hbe : byteE ((colsX L k).flatten ++ (colX L k).take j) = be at *
      (repeat' ((conv => whnf); first | refine CondVC.t ?_ | refine CondVC.f ?_ | refine CondVC.dec (fun h => ?_) (fun h => ?_) | refine CondVC.ndec (fun h => ?_) (fun h => ?_) | refine CondVC.mk (fun h => ?_) (fun h => ?_) | refine ArVC.i64 (by first | omega | (simp only; omega)) ?_ | refine SideVC.mk (by first | omega | decide | (simp only; omega) | (simp [slS]; done) | (simp [slS]; omega) | (simp only [byteE_len, mvE_len, strE_len, intE_len, esC_len, List.length_cons, List.length_nil, List.length_append, List.length_replicate, List.length_set, Int.toNat_natCast, and_true] at *; omega)) ?_ | refine LoopN.go ?_ | exact trivial | refine AltVC.mk ?_ ?_ | refine HeldVC.mk rfl ?_ | refine CallVC.pure h4 rfl ?_ | refine OpVC.more tt_ok ?_ | refine RestVC.ext tt_ok ?_)); all_goals (conv => whnf)
      all_goals first
        | (exfalso; omega)
        | exact ⟨j + 1, by omega, by omega, Sub.mk [(3001, 23)] _ ⟨rfl, rfl, rfl, rfl, rfl, rfl, rfl, rfl, trivial⟩ (by rw [he]; rfl) rfl⟩
    · have ej : j = L.length := by omega
      have he : (colsX L k).flatten ++ (colX L k).take j = (colsX L (k + 1)).flatten := by
        rw [colsX_succ, List.flatten_append, List.take_of_length_le (by rw [colX_len]; omega)]; simp
      (repeat' ((conv => whnf); first | refine CondVC.t ?_ | refine CondVC.f ?_ | refine CondVC.dec (fun h => ?_) (fun h => ?_) | refine CondVC.ndec (fun h => ?_) (fun h => ?_) | refine CondVC.mk (fun h => ?_) (fun h => ?_) | refine ArVC.i64 (by first | omega | (simp only; omega)) ?_ | refine SideVC.mk (by first | omega | decide | (simp only; omega) | (simp [slS]; done) | (simp [slS]; omega) | (simp only [byteE_len, mvE_len, strE_len, intE_len, esC_len, List.length_cons, List.length_nil, List.length_append, List.length_replicate, List.length_set, Int.toNat_natCast, and_true] at *; omega)) ?_ | refine LoopN.go ?_ | exact trivial | refine AltVC.mk ?_ ?_ | refine HeldVC.mk rfl ?_ | refine OpVC.more tt_ok ?_ | refine RestVC.ext tt_ok ?_)); all_goals (conv => whnf)
      all_goals first
        | (exfalso; omega)
        | exact ⟨k + 1, by omega, by omega, Sub.mk [] _ ⟨rfl, rfl, rfl, rfl, rfl, trivial⟩ (by rw [← he]; rfl) rfl⟩
  · have e : k = n := by omega
    subst e
    (repeat' ((conv => whnf); first | refine CondVC.t ?_ | refine CondVC.f ?_ | refine CondVC.dec (fun h => ?_) (fun h => ?_) | refine CondVC.ndec (fun h => ?_) (fun h => ?_) | refine CondVC.mk (fun h => ?_) (fun h => ?_) | refine ArVC.i64 (by first | omega | (simp only; omega)) ?_ | refine SideVC.mk (by first | omega | decide | (simp only; omega) | (simp [slS]; done) | (simp [slS]; omega) | (simp only [byteE_len, mvE_len, strE_len, intE_len, esC_len, List.length_cons, List.length_nil, List.length_append, List.length_replicate, List.length_set, Int.toNat_natCast, and_true] at *; omega)) ?_ | refine LoopN.go ?_ | exact trivial | refine AltVC.mk ?_ ?_ | refine HeldVC.mk rfl ?_ | refine DrawVC.tree (id := 11) tt_ok [1] tr82_11 (by kernel_rfl) (by kernel_rfl) rfl ?_ | refine CallVC.pure h3 rfl ?_ | refine BytesVC.mk (colsX L k).flatten rfl ?_ | refine OpVC.more tt_ok ?_ | refine RestVC.ext tt_ok ?_)); all_goals (conv => whnf)
    all_goals first
      | (exfalso; omega)
      | exact RetVC.res rfl rfl

/-! ### The reference's -/
set_option maxHeartbeats 4000000 in
theorem boCross_spec (L : List Tx) (n : Nat) (hr : ∀ r ∈ L, r.length = n) (hok : (L.getD 0 []).all okCh = true) (hn : 1 ≤ n) (hn2 : n ≤ 1000) (h1l : 1 ≤ L.length) (hl : L.length ≤ 1000) :
    Spec Tryd.prog 79 [.c (.sl 1000)] [(1000, .sl 9 1 (strE L))] (isRes [.c (.sl 1001)] [(1000, .sl 9 1 (strE L)), (1001, .sl 9 1 (strE (colsX L n)))]) := by
  have hll := strE_len L
  have hg0 : (strE L)[0]? = some [.str (L.getD 0 [])] := by
    rw [strE_get (by omega), List.getD_eq_getElem?_getD, List.getElem?_eq_getElem (by omega)]; rfl
  have hw0 : (L.getD 0 []).length = n := by
    rw [List.getD_eq_getElem?_getD, List.getElem?_eq_getElem (by omega)]
    exact hr _ (List.getElem_mem (by omega))
  generalize L.getD 0 [] = w0 at *
  refine Spec.of_wpx tt_ok Tryd.func79 (by kernel_rfl) rfl ?_
  (repeat' ((conv => whnf); first | refine CondVC.t ?_ | refine CondVC.f ?_ | refine CondVC.dec (fun h => ?_) (fun h => ?_) | refine CondVC.ndec (fun h => ?_) (fun h => ?_) | refine CondVC.mk (fun h => ?_) (fun h => ?_) | refine ArVC.i64 (by first | omega | (simp only; omega)) ?_ | refine SideVC.mk (by first | omega | decide | (simp only; omega) | (simp [slS]; done) | (simp [slS]; omega) | (simp only [byteE_len, mvE_len, strE_len, intE_len, esC_len, List.length_cons, List.length_nil, List.length_append, List.length_replicate, List.length_set, Int.toNat_natCast, and_true] at *; omega)) ?_ | refine LoopN.go ?_ | exact trivial | refine AltVC.mk ?_ ?_ | refine HeldVC.mk rfl ?_ | refine LoadVC.mk _ hg0 ?_ | refine SideVC.mk (by rw [hll]; omega) ?_ | refine OpVC.more tt_ok ?_ | refine RestVC.ext tt_ok ?_)); all_goals (conv => whnf)
  all_goals try (exfalso; omega)
  refine LoopVC.mk (G := Nat) (fun k => ⟨[(11, .v (.c (.ptr 11 0))), (3, .v (.c (.sl 1001))), (0, .v (.c (.sl 1000)))], [(1001, .sl 9 1 (strE (colsX L k))), (11, .ext (.it w0 k)), (1000, .sl 9 1 (strE L))]⟩)
    (fun k => k ≤ n) (fun k => n - k) 0 (by omega) (Sub.nil 1001 9 1 ⟨rfl, rfl, rfl, trivial⟩ rfl rfl) ?_
  intro k hk
  have hcl := colsX_len L k
  have hsl := strE_len (colsX L k)
  (repeat' ((conv => whnf); first | refine CondVC.t ?_ | refine CondVC.f ?_ | refine CondVC.dec (fun h => ?_) (fun h => ?_) | refine CondVC.ndec (fun h => ?_) (fun h => ?_) | refine CondVC.mk (fun h => ?_) (fun h => ?_) | refine ArVC.i64 (by first | omega | (simp only; omega)) ?_ | refine SideVC.mk (by first | omega | decide | (simp only; omega) | (simp [slS]; done) | (simp [slS]; omega) | (simp only [byteE_len, mvE_len, strE_len, intE_len, esC_len, List.length_cons, List.length_nil, List.length_append, List.length_replicate, List.length_set, Int.toNat_natCast, and_true] at *; omega)) ?_ | refine LoopN.go ?_ | exact trivial | refine AltVC.mk ?_ ?_ | refine HeldVC.mk rfl ?_ | refine NextVC.mk (fun hlt => ⟨ascii_getD hok hlt, ?_⟩) (fun hle => ?_) | refine OpVC.more tt_ok ?_ | refine RestVC.ext tt_ok ?_)); all_goals (conv => whnf)
  · refine LoopVC.mk (G := Nat) (fun j => ⟨[(17, .v (i64 j)), (16, .v (i64 L.length)), (15, .v (.c (.sl 1000))), (5, .v (.c (.str ((colX L k).take j)))), (4, .v (i64 k)), (11, .v (.c (.ptr 11 0))), (3, .v (.c (.sl 1001))), (0, .v (.c (.sl 1000)))], [(1001, .sl 9 1 (strE (colsX L k))), (11, .ext (.it w0 (k + 1))), (1000, .sl 9 1 (strE L))]⟩)
      (fun j => j ≤ L.length) (fun j => L.length - j) 0 (by omega) (Sub.mk [] _ ⟨rfl, by rw [← hll]; rfl, rfl, rfl, rfl, rfl, rfl, rfl, trivial⟩ rfl rfl) ?_
    intro j hj
    by_cases hjl : j < L.length
    · have g1 : (strE L)[(j : Int).toNat]? = some [.str L[j]] := by rw [Int.toNat_natCast]; exact strE_get hjl
      have hrl : (L[j]).length = n := hr _ (List.getElem_mem hjl)
      have hone : slS L[j] (k : Int).toNat ((k : Int) + 1).toNat = [L[j].getD k 0] := by rw [show ((k : Int) + 1).toNat = k + 1 by omega, Int.toNat_natCast]; exact slS_one (by omega)
      have he : (colX L k).take (j + 1) = (colX L k).take j ++ slS L[j] (k : Int).toNat ((k : Int) + 1).toNat := by rw [colX_take hjl, hone]
      have hlt2 : ((colX L k).take j).length ≤ 1000 := by rw [List.length_take, colX_len]; omega
      have hol : (slS L[j] (k : Int).toNat ((k : Int) + 1).toNat).length = 1 := by rw [hone]; rfl
      generalize L[j] = r at *
      generalize hcj : (colX L k).take j = cj at *
      (repeat' ((conv => whnf); first | refine CondVC.t ?_ | refine CondVC.f ?_ | refine CondVC.dec (fun h => ?_) (fun h => ?_) | refine CondVC.ndec (fun h => ?_) (fun h => ?_) | refine CondVC.mk (fun h => ?_) (fun h => ?_) | refine ArVC.i64 (by first | omega | (simp only; omega)) ?_ | refine SideVC.mk (by first | omega | decide | (simp only; omega) | (simp [slS]; done) | (simp [slS]; omega) | (simp only [byteE_len, mvE_len, strE_len, intE_len, esC_len, List.length_cons, List.length_nil, List.length_append, List.length_replicate, List.length_set, Int.toNat_natCast, and_true] at *; omega)) ?_ | refine LoopN.go ?_ | exact trivial | refine AltVC.mk ?_ ?_ | refine HeldVC.mk rfl ?_ | refine LoadVC.mk _ g1 ?_ | refine SideVC.mk (by rw [hll]; omega) ?_ | refine SideVC.mk (by simp only [hol]; omega) ?_ | refine OpVC.more tt_ok ?_ | refine RestVC.ext tt_ok ?_)); all_goals (conv => whnf)
      all_goals first
        | (exfalso; omega)
        | exact ⟨j + 1, by omega, by omega, Sub.mk [] _ ⟨rfl, rfl, rfl, by rw [he]; rfl, rfl, rfl, rfl, rfl, trivial⟩ rfl rfl⟩
    · have ej : (colX L k).take j = colX L k := List.take_of_length_le (by rw [colX_len]; omega)
      have he : strE (colsX L (k + 1)) = strE (colsX L k) ++ [[.str (colX L k)]] := by rw [colsX_succ, strE_append]; rfl
      rw [ej]
      generalize colX L k = cx at *
      (repeat' ((conv => whnf); first | refine CondVC.t ?_ | refine CondVC.f ?_ | refine CondVC.dec (fun h => ?_) (fun h => ?_) | refine CondVC.ndec (fun h => ?_) (fun h => ?_) | refine CondVC.mk (fun h => ?_) (fun h => ?_) | refine ArVC.i64 (by first | omega | (simp only; omega)) ?_ | refine SideVC.mk (by first | omega | decide | (simp only; omega) | (simp [slS]; done) | (simp [slS]; omega) | (simp only [byteE_len, mvE_len, strE_len, intE_len, esC_len, List.length_cons, List.length_nil, List.length_append, List.length_replicate, List.length_set, Int.toNat_natCast, and_true] at *; omega)) ?_ | refine LoopN.go ?_ | exact trivial | refine AltVC.mk ?_ ?_ | refine HeldVC.mk rfl ?_ | refine SideVC.mk (by simp only [hsl]; omega) ?_ | refine OpVC.more tt_ok ?_ | refine RestVC.ext tt_ok ?_)); all_goals (conv => whnf)
      all_goals first
        | (exfalso; omega)
        | exact ⟨k + 1, by omega, by omega, Sub.mk [(1001, 32)] _ ⟨rfl, rfl, rfl, trivial⟩ (by rw [he]; rfl) rfl⟩
  · have e : k = n := by omega
    subst e
    exact RetVC.res rfl rfl

/-! ### Both functions -/
def crossF (b : Tx) : Tx := if brdF b then Lib.join (colsX (spl 47 b) ((spl 47 b).getD 0 []).length) [47] else []
/-- What is known of a board's rows. -/
theorem brd_facts {b : Tx} (h : brdF b = true) : (1 ≤ (spl 47 b).length ∧ (spl 47 b).length ≤ 5) ∧ (1 ≤ ((spl 47 b).getD 0 []).length ∧ ((spl 47 b).getD 0 []).length ≤ 5) ∧ (∀ r ∈ spl 47 b, r.length = ((spl 47 b).getD 0 []).length ∧ r.all okCh = true) := by
  obtain ⟨h5, hrow⟩ := brd_rows h
  have hpos : 0 < (spl 47 b).length := List.length_pos_iff.2 (spl_ne 47 b)
  have h0 : (spl 47 b).getD 0 [] ∈ spl 47 b := by
    rw [List.getD_eq_getElem?_getD, List.getElem?_eq_getElem hpos]; exact List.getElem_mem hpos
  exact ⟨⟨hpos, h5⟩, (rowOk_line (hrow _ h0)).1.1, fun r hr => ⟨(rowOk_line (hrow r hr)).2, (rowOk_line (hrow r hr)).1.2⟩⟩
theorem implCrossBoard_spec (b : Tx) (hb : b.length ≤ 1048576) : Spec Tryd.prog 30 [.c (.str b)] [] (isRes [.c (.str (crossF b)), vb (brdF b)] []) := by
  have h1 := implIsBoard_spec b hb
  unfold crossF
  cases hq : brdF b with
  | false =>
    rw [hq] at h1
    rw [if_neg Bool.false_ne_true]
    refine Spec.of_wpx tt_ok Tryd.func30 (by kernel_rfl) rfl ?_
    (repeat' ((conv => whnf); first | refine CondVC.t ?_ | refine CondVC.f ?_ | refine CondVC.dec (fun h => ?_) (fun h => ?_) | refine CondVC.ndec (fun h => ?_) (fun h => ?_) | refine CondVC.mk (fun h => ?_) (fun h => ?_) | refine ArVC.i64 (by first | omega | (simp only; omega)) ?_ | refine SideVC.mk (by first | omega | decide | (simp only; omega) | (simp [slS]; done) | (simp [slS]; omega) | (simp only [byteE_len, mvE_len, strE_len, intE_len, esC_len, List.length_cons, List.length_nil, List.length_append, List.length_replicate, List.length_set, Int.toNat_natCast, and_true] at *; omega)) ?_ | refine LoopN.go ?_ | exact trivial | refine AltVC.mk ?_ ?_ | refine HeldVC.mk rfl ?_ | refine CallVC.pure h1 rfl ?_ | refine OpVC.more tt_ok ?_ | refine RestVC.ext tt_ok ?_)); all_goals (conv => whnf)
    all_goals exact RetVC.res rfl rfl
  | true =>
    rw [hq] at h1
    rw [if_pos rfl]
    obtain ⟨⟨f1, f2⟩, ⟨f3, f4⟩, f5⟩ := brd_facts hq
    have h2 := boardOf_spec b (by have := brd_len hq; omega)
    generalize spl 47 b = L at *
    generalize (L.getD 0 []).length = n at *
    have h3 := crossed_spec L n (fun r hr => (f5 r hr).1) f3 (by omega) f1 (by omega)
    have h4 := text_spec (colsX L n) L.length f1 (by omega) (by rw [colsX_len]; omega) fun r hr => colsX_each hr
    generalize L.flatten = t at *
    generalize (colsX L n).flatten = u at *
    generalize Lib.join (colsX L n) [47] = R at *
    refine Spec.of_wpx tt_ok Tryd.func30 (by kernel_rfl) rfl ?_
    (repeat' ((conv => whnf); first | refine CondVC.t ?_ | refine CondVC.f ?_ | refine CondVC.dec (fun h => ?_) (fun h => ?_) | refine CondVC.ndec (fun h => ?_) (fun h => ?_) | refine CondVC.mk (fun h => ?_) (fun h => ?_) | refine ArVC.i64 (by first | omega | (simp only; omega)) ?_ | refine SideVC.mk (by first | omega | decide | (simp only; omega) | (simp [slS]; done) | (simp [slS]; omega) | (simp only [byteE_len, mvE_len, strE_len, intE_len, esC_len, List.length_cons, List.length_nil, List.length_append, List.length_replicate, List.length_set, Int.toNat_natCast, and_true] at *; omega)) ?_ | refine LoopN.go ?_ | exact trivial | refine AltVC.mk ?_ ?_ | refine HeldVC.mk rfl ?_ | refine CallVC.pure h1 rfl ?_ | refine CallVC.pure h2 rfl ?_ | refine CallVC.pure h3 rfl ?_ | refine CallVC.pure h4 rfl ?_ | refine OpVC.more tt_ok ?_ | refine RestVC.ext tt_ok ?_)); all_goals (conv => whnf)
    all_goals exact RetVC.res rfl rfl
theorem specCrossBoard_spec (b : Tx) (hb : b.length ≤ 1048576) : Spec Tryd.prog 29 [.c (.str b)] [] (isRes [.c (.str (crossF b)), vb (brdF b)] []) := by
  have h1 := Spec.ren [(1001, 2001)] [(2001, 1001)] (boRows_spec b hb) rfl rfl rfl
  unfold brdL at h1
  unfold crossF
  cases hq : brdF b with
  | false =>
    rw [hq] at h1
    rw [if_neg Bool.false_ne_true]
    rw [if_neg Bool.false_ne_true] at h1
    refine Spec.of_wpx tt_ok Tryd.func29 (by kernel_rfl) rfl ?_
    (repeat' ((conv => whnf); first | refine CondVC.t ?_ | refine CondVC.f ?_ | refine CondVC.dec (fun h => ?_) (fun h => ?_) | refine CondVC.ndec (fun h => ?_) (fun h => ?_) | refine CondVC.mk (fun h => ?_) (fun h => ?_) | refine ArVC.i64 (by first | omega | (simp only; omega)) ?_ | refine SideVC.mk (by first | omega | decide | (simp only; omega) | (simp [slS]; done) | (simp [slS]; omega) | (simp only [byteE_len, mvE_len, strE_len, intE_len, esC_len, List.length_cons, List.length_nil, List.length_append, List.length_replicate, List.length_set, Int.toNat_natCast, and_true] at *; omega)) ?_ | refine LoopN.go ?_ | exact trivial | refine AltVC.mk ?_ ?_ | refine HeldVC.mk rfl ?_ | refine CallVC.res [] rfl h1 rfl ?_ | refine OpVC.more tt_ok ?_ | refine RestVC.ext tt_ok ?_)); all_goals (conv => whnf)
    all_goals first | exact RetVC.res rfl rfl | (exfalso; simp_all; done)
  | true =>
    rw [hq, if_pos rfl] at h1
    rw [if_pos rfl]
    obtain ⟨⟨f1, f2⟩, ⟨f3, f4⟩, f5⟩ := brd_facts hq
    generalize spl 47 b = L at *
    have hok0 : (L.getD 0 []).all okCh = true := (f5 _ (by rw [List.getD_eq_getElem?_getD, List.getElem?_eq_getElem (by omega)]; exact List.getElem_mem (by omega))).2
    have h2 := Spec.ren [(1000, 2001), (1001, 2002)] [(2001, 1000), (2002, 1001)] (boCross_spec L (L.getD 0 []).length (fun r hr => (f5 r hr).1) hok0 f3 (by omega) f1 (by omega)) rfl rfl rfl
    have h3 := Spec.ren [(1000, 2002)] [(2002, 1000)] (boText_spec (colsX L (L.getD 0 []).length) (by rw [colsX_len]; omega) fun r hr => by rw [colsX_each hr]; omega) rfl rfl rfl
    generalize Lib.join (colsX L (L.getD 0 []).length) [47] = R at *
    refine Spec.of_wpx tt_ok Tryd.func29 (by kernel_rfl) rfl ?_
    (repeat' ((conv => whnf); first | refine CondVC.t ?_ | refine CondVC.f ?_ | refine CondVC.dec (fun h => ?_) (fun h => ?_) | refine CondVC.ndec (fun h => ?_) (fun h => ?_) | refine CondVC.mk (fun h => ?_) (fun h => ?_) | refine ArVC.i64 (by first | omega | (simp only; omega)) ?_ | refine SideVC.mk (by first | omega | decide | (simp only; omega) | (simp [slS]; done) | (simp [slS]; omega) | (simp only [byteE_len, mvE_len, strE_len, intE_len, esC_len, List.length_cons, List.length_nil, List.length_append, List.length_replicate, List.length_set, Int.toNat_natCast, and_true] at *; omega)) ?_ | refine LoopN.go ?_ | exact trivial | refine AltVC.mk ?_ ?_ | refine HeldVC.mk rfl ?_ | refine CallVC.res [] rfl h1 rfl ?_ | refine CallVC.res [2001] rfl h2 rfl ?_ | refine CallVC.res [2002] rfl h3 rfl ?_ | refine OpVC.more tt_ok ?_ | refine RestVC.ext tt_ok ?_)); all_goals (conv => whnf)
    all_goals first | exact RetVC.res rfl rfl | (exfalso; simp_all; done)
theorem lawCrossBoard_spec (b : Tx) (hb : b.length ≤ 9223372036854775807) : Spec Tryd.prog 5 [.c (.str b)] [] (isRes [vb true] []) := by
  refine Spec.of_wpx tt_ok Tryd.func5 (by kernel_rfl) rfl ?_
  by_cases h : b.length ≤ 1048576
  · have h1 := specCrossBoard_spec b h
    have h2 := implCrossBoard_spec b h
    generalize crossF b = t at *
    generalize brdF b = q at *
    (repeat' ((conv => whnf); first | refine CondVC.t ?_ | refine CondVC.f ?_ | refine CondVC.dec (fun h => ?_) (fun h => ?_) | refine CondVC.ndec (fun h => ?_) (fun h => ?_) | refine CondVC.mk (fun h => ?_) (fun h => ?_) | refine ArVC.i64 (by first | omega | (simp only; omega)) ?_ | refine SideVC.mk (by first | omega | decide | (simp only; omega) | (simp [slS]; done) | (simp [slS]; omega) | (simp only [byteE_len, mvE_len, strE_len, intE_len, esC_len, List.length_cons, List.length_nil, List.length_append, List.length_replicate, List.length_set, Int.toNat_natCast, and_true] at *; omega)) ?_ | refine LoopN.go ?_ | exact trivial | refine AltVC.mk ?_ ?_ | refine HeldVC.mk rfl ?_ | refine CallVC.pure h1 rfl ?_ | refine CallVC.pure h2 rfl ?_ | refine OpVC.more tt_ok ?_ | refine RestVC.ext tt_ok ?_)); all_goals (conv => whnf)
    all_goals first | exact RetVC.res rfl rfl | (exfalso; omega) | (exfalso; simp_all; done)
  · (repeat' ((conv => whnf); first | refine CondVC.t ?_ | refine CondVC.f ?_ | refine CondVC.dec (fun h => ?_) (fun h => ?_) | refine CondVC.ndec (fun h => ?_) (fun h => ?_) | refine CondVC.mk (fun h => ?_) (fun h => ?_) | refine ArVC.i64 (by first | omega | (simp only; omega)) ?_ | refine SideVC.mk (by first | omega | decide | (simp only; omega) | (simp [slS]; done) | (simp [slS]; omega) | (simp only [byteE_len, mvE_len, strE_len, intE_len, esC_len, List.length_cons, List.length_nil, List.length_append, List.length_replicate, List.length_set, Int.toNat_natCast, and_true] at *; omega)) ?_ | refine LoopN.go ?_ | exact trivial | refine AltVC.mk ?_ ?_ | refine HeldVC.mk rfl ?_ | refine OpVC.more tt_ok ?_ | refine RestVC.ext tt_ok ?_)); all_goals (conv => whnf)
    all_goals first | exact RetVC.res rfl rfl | (exfalso; omega)
end Go.Proofs.YtaidpalamhmghaaDoor.X
