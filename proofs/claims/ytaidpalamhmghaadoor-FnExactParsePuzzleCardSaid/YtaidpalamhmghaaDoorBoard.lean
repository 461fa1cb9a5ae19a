/- First boards. No condition beyond each statement's. -/
import Derived.Test.YtaidpalamhmghaaDoorBoardF
import Derived.Test.YtaidpalamhmghaaDoorJoin
namespace Go.Proofs.YtaidpalamhmghaaDoor.X
open Go.Proofs
set_option maxRecDepth 100000
set_option linter.unusedVariables false
set_option linter.unusedSimpArgs false

theorem u8_84' (b : UInt8) : (((b.toNat : Nat) : Int) = 84) ↔ b = 84 := by
  constructor
  · intro h
    apply UInt8.toNat.inj
    have : b.toNat = 84 := by omega
    exact this
  · rintro rfl; rfl
theorem u8_70' (b : UInt8) : (((b.toNat : Nat) : Int) = 70) ↔ b = 70 := by
  constructor
  · intro h
    apply UInt8.toNat.inj
    have : b.toNat = 70 := by omega
    exact this
  · rintro rfl; rfl

theorem liTimes_spec (s : Tx) (n : Nat) (hs : s.length ≤ 100) (hn : n ≤ 1000) : Spec Tryd.prog 157 [.c (.str s), i64 n] [] (isRes [.c (.str (rep s n))] []) := by
  refine Spec.of_wpx tt_ok Tryd.func157 (by kernel_rfl) rfl ?_
  (repeat' ((conv => whnf); first | refine CondVC.t ?_ | refine CondVC.f ?_ | refine CondVC.dec (fun h => ?_) (fun h => ?_) | refine CondVC.ndec (fun h => ?_) (fun h => ?_) | refine CondVC.mk (fun h => ?_) (fun h => ?_) | refine ArVC.i64 (by first | omega | (simp only; omega)) ?_ | refine SideVC.mk (by first | omega | decide | (simp only; omega) | (simp [slS]; done) | (simp [slS]; omega) | (simp only [byteE_len, mvE_len, strE_len, intE_len, esC_len, List.length_cons, List.length_nil, List.length_append, List.length_replicate, List.length_set, Int.toNat_natCast, and_true] at *; omega)) ?_ | refine LoopN.go ?_ | exact trivial | refine AltVC.mk ?_ ?_ | refine HeldVC.mk rfl ?_ | refine OpVC.more tt_ok ?_ | refine RestVC.ext tt_ok ?_)); all_goals (conv => whnf)
  refine LoopVC.mk (G := Nat) (fun k => ⟨[(5, .v (.c (.str (rep s k)))), (1, .v (i64 ((n : Int) - k))), (0, .v (.c (.str s)))], []⟩)
    (fun k => k ≤ n) (fun k => n - k) 0 (by omega) (Sub.mk [] [] ⟨rfl, congrArg (fun z => some (E.v (i64 z))) (show (n : Int) = (n : Int) - ((0 : Nat) : Int) by omega), rfl, trivial⟩ rfl rfl) ?_
  intro k hk
  have hl := rep_len s k
  have hle : k * s.length ≤ 1000 * 100 := Nat.mul_le_mul (by omega) hs
  by_cases hlt : k < n
  · (repeat' ((conv => whnf); first | refine CondVC.t ?_ | refine CondVC.f ?_ | refine CondVC.dec (fun h => ?_) (fun h => ?_) | refine CondVC.ndec (fun h => ?_) (fun h => ?_) | refine CondVC.mk (fun h => ?_) (fun h => ?_) | refine ArVC.i64 (by first | omega | (simp only; omega)) ?_ | refine SideVC.mk (by first | omega | decide | (simp only; omega) | (simp [slS]; done) | (simp [slS]; omega) | (simp only [byteE_len, mvE_len, strE_len, intE_len, esC_len, List.length_cons, List.length_nil, List.length_append, List.length_replicate, List.length_set, Int.toNat_natCast, and_true] at *; omega)) ?_ | refine LoopN.go ?_ | exact trivial | refine AltVC.mk ?_ ?_ | refine HeldVC.mk rfl ?_ | refine OpVC.more tt_ok ?_ | refine RestVC.ext tt_ok ?_)); all_goals (conv => whnf)
    all_goals first
      | (exfalso; omega)
      | exact ⟨k + 1, by omega, by omega, Sub.mk [] _ ⟨by rw [rep_succ]; rfl, congrArg (fun z => some (E.v (i64 z))) (show (n : Int) - k - 1 = (n : Int) - ((k + 1 : Nat) : Int) by omega), rfl, trivial⟩ rfl rfl⟩
  · (repeat' ((conv => whnf); first | refine CondVC.t ?_ | refine CondVC.f ?_ | refine CondVC.dec (fun h => ?_) (fun h => ?_) | refine CondVC.ndec (fun h => ?_) (fun h => ?_) | refine CondVC.mk (fun h => ?_) (fun h => ?_) | refine ArVC.i64 (by first | omega | (simp only; omega)) ?_ | refine SideVC.mk (by first | omega | decide | (simp only; omega) | (simp [slS]; done) | (simp [slS]; omega) | (simp only [byteE_len, mvE_len, strE_len, intE_len, esC_len, List.length_cons, List.length_nil, List.length_append, List.length_replicate, List.length_set, Int.toNat_natCast, and_true] at *; omega)) ?_ | refine LoopN.go ?_ | exact trivial | refine AltVC.mk ?_ ?_ | refine HeldVC.mk rfl ?_ | refine OpVC.more tt_ok ?_ | refine RestVC.ext tt_ok ?_)); all_goals (conv => whnf)
    all_goals first
      | (exfalso; omega)
      | exact RetVC.res (by rw [show k = n by omega]) rfl

theorem boText_spec (rows : List Tx) (hl : rows.length ≤ 1000) (hr : ∀ r ∈ rows, r.length ≤ 1000) : Spec Tryd.prog 78 [.c (.sl 1000)] [(1000, .sl 9 1 (strE rows))] (isRes [.c (.str (Lib.join rows [47]))] [(1000, .sl 9 1 (strE rows))]) := by
  have hml := strE_len rows
  refine Spec.of_wpx tt_ok Tryd.func78 (by kernel_rfl) rfl ?_
  (repeat' ((conv => whnf); first | refine CondVC.t ?_ | refine CondVC.f ?_ | refine CondVC.dec (fun h => ?_) (fun h => ?_) | refine CondVC.ndec (fun h => ?_) (fun h => ?_) | refine CondVC.mk (fun h => ?_) (fun h => ?_) | refine ArVC.i64 (by first | omega | (simp only; omega)) ?_ | refine SideVC.mk (by first | omega | decide | (simp only; omega) | (simp [slS]; done) | (simp [slS]; omega) | (simp only [byteE_len, mvE_len, strE_len, intE_len, esC_len, List.length_cons, List.length_nil, List.length_append, List.length_replicate, List.length_set, Int.toNat_natCast, and_true] at *; omega)) ?_ | refine LoopN.go ?_ | exact trivial | refine AltVC.mk ?_ ?_ | refine HeldVC.mk rfl ?_ | refine OpVC.more tt_ok ?_ | refine RestVC.ext tt_ok ?_)); all_goals (conv => whnf)
  refine LoopVC.mk (G := Nat) (fun k => ⟨[(8, .v (i64 k)), (7, .v (i64 rows.length)), (6, .v (.c (.sl 1000))), (3, .v (.c (.str (Lib.join (rows.take k) [47]))))], [(1000, .sl 9 1 (strE rows))]⟩)
    (fun k => k ≤ rows.length ∧ (Lib.join (rows.take k) [47]).length ≤ 2000 * k) (fun k => rows.length - k) 0 ⟨by omega, by simp [Lib.join_nil]⟩ (Sub.mk [] _ ⟨rfl, by rw [hml]; rfl, rfl, rfl, trivial⟩ rfl rfl) ?_
  intro k ⟨hk, hlen⟩
  by_cases hlt : k < rows.length
  · have g1 : (strE rows)[(k : Int).toNat]? = some [.str rows[k]] := by rw [Int.toNat_natCast]; exact strE_get hlt
    have hst := join_step (sep := [47]) hlt
    have hrk := hr _ (List.getElem_mem hlt)
    have h0 : k = 0 → Lib.join (rows.take k) [47] = [] := fun e => by subst e; rfl
    generalize Lib.join (rows.take k) [47] = j at *
    generalize rows[k] = r at *
    by_cases hz : k = 0
    · rw [if_pos hz] at hst
      have hj := h0 hz
      (repeat' ((conv => whnf); first | refine CondVC.t ?_ | refine CondVC.f ?_ | refine CondVC.dec (fun h => ?_) (fun h => ?_) | refine CondVC.ndec (fun h => ?_) (fun h => ?_) | refine CondVC.mk (fun h => ?_) (fun h => ?_) | refine ArVC.i64 (by first | omega | (simp only; omega)) ?_ | refine SideVC.mk (by first | omega | decide | (simp only; omega) | (simp [slS]; done) | (simp [slS]; omega) | (simp only [byteE_len, mvE_len, strE_len, intE_len, esC_len, List.length_cons, List.length_nil, List.length_append, List.length_replicate, List.length_set, Int.toNat_natCast, and_true] at *; omega)) ?_ | refine LoopN.go ?_ | exact trivial | refine AltVC.mk ?_ ?_ | refine HeldVC.mk rfl ?_ | refine LoadVC.mk _ g1 ?_ | refine SideVC.mk (by rw [hml]; omega) ?_ | refine SideVC.mk (by simp at *; omega) ?_ | refine OpVC.more tt_ok ?_ | refine RestVC.ext tt_ok ?_)); all_goals (conv => whnf)
      all_goals first
        | (exfalso; omega)
        | exact ⟨k + 1, ⟨by omega, by rw [hst]; omega⟩, by omega, Sub.mk [] _ ⟨rfl, rfl, rfl, by rw [hst, hj]; rfl, trivial⟩ rfl rfl⟩
    · rw [if_neg hz] at hst
      (repeat' ((conv => whnf); first | refine CondVC.t ?_ | refine CondVC.f ?_ | refine CondVC.dec (fun h => ?_) (fun h => ?_) | refine CondVC.ndec (fun h => ?_) (fun h => ?_) | refine CondVC.mk (fun h => ?_) (fun h => ?_) | refine ArVC.i64 (by first | omega | (simp only; omega)) ?_ | refine SideVC.mk (by first | omega | decide | (simp only; omega) | (simp [slS]; done) | (simp [slS]; omega) | (simp only [byteE_len, mvE_len, strE_len, intE_len, esC_len, List.length_cons, List.length_nil, List.length_append, List.length_replicate, List.length_set, Int.toNat_natCast, and_true] at *; omega)) ?_ | refine LoopN.go ?_ | exact trivial | refine AltVC.mk ?_ ?_ | refine HeldVC.mk rfl ?_ | refine LoadVC.mk _ g1 ?_ | refine SideVC.mk (by rw [hml]; omega) ?_ | refine SideVC.mk (by simp at *; omega) ?_ | refine OpVC.more tt_ok ?_ | refine RestVC.ext tt_ok ?_)); all_goals (conv => whnf)
      all_goals first
        | (exfalso; omega)
        | exact ⟨k + 1, ⟨by omega, by rw [hst]; simp; omega⟩, by omega, Sub.mk [] _ ⟨rfl, rfl, rfl, by rw [hst]; rfl, trivial⟩ rfl rfl⟩
  · (repeat' ((conv => whnf); first | refine CondVC.t ?_ | refine CondVC.f ?_ | refine CondVC.dec (fun h => ?_) (fun h => ?_) | refine CondVC.ndec (fun h => ?_) (fun h => ?_) | refine CondVC.mk (fun h => ?_) (fun h => ?_) | refine ArVC.i64 (by first | omega | (simp only; omega)) ?_ | refine SideVC.mk (by first | omega | decide | (simp only; omega) | (simp [slS]; done) | (simp [slS]; omega) | (simp only [byteE_len, mvE_len, strE_len, intE_len, esC_len, List.length_cons, List.length_nil, List.length_append, List.length_replicate, List.length_set, Int.toNat_natCast, and_true] at *; omega)) ?_ | refine LoopN.go ?_ | exact trivial | refine AltVC.mk ?_ ?_ | refine HeldVC.mk rfl ?_ | refine OpVC.more tt_ok ?_ | refine RestVC.ext tt_ok ?_)); all_goals (conv => whnf)
    all_goals first
      | (exfalso; omega)
      | exact RetVC.res (by rw [List.take_of_length_le (by omega)]) rfl

theorem rowsF_succ {a b : UInt8} {w h : Nat} (k : Nat) : strE ((List.range (k + 1)).map (rowF a b w h)) = strE ((List.range k).map (rowF a b w h)) ++ [[.str (rowF a b w h k)]] := by
  rw [List.range_succ, List.map_append, strE_append]; rfl

/-! ### The program's -/
theorem enc84 : (Utf8.encode (84 : Int)).data.toList = [84] := by decide
theorem enc70 : (Utf8.encode (70 : Int)).data.toList = [70] := by decide
theorem enc46 : (Utf8.encode (46 : Int)).data.toList = [46] := by decide

theorem midF_cs (g k : Nat) : midF 84 70 g k = 84 ∨ midF 84 70 g k = 46 ∨ midF 84 70 g k = 70 := by
  unfold midF
  split
  · exact .inl rfl
  · split
    · exact .inr (.inl rfl)
    · exact .inr (.inr rfl)
def cellsTo (w g k : Nat) : Tx := ((List.range k).map (rowF 84 70 w g)).flatten
theorem cellsTo_succ (w g k : Nat) : cellsTo w g (k + 1) = cellsTo w g k ++ rowF 84 70 w g k := by
  unfold cellsTo
  rw [List.range_succ, List.map_append, List.flatten_append]
  simp
theorem cellsTo_len (w g k : Nat) : (cellsTo w g k).length = k * (2 * w + 1) := by
  induction k with
  | zero => simp [cellsTo]
  | succ k ih => rw [cellsTo_succ, List.length_append, ih, rowF_len, Nat.add_mul, Nat.one_mul]

theorem text_spec (rows : List Tx) (n : Nat) (hn : 1 ≤ n) (hn2 : n ≤ 1000) (hl : rows.length ≤ 1000) (hr : ∀ r ∈ rows, r.length = n) :
    Spec Tryd.prog 83 [.agg [.str rows.flatten, .int .i64 n]] [] (isRes [.c (.str (Lib.join rows [47]))] []) := by
  have hfl := flatten_len hr
  have hcut : ∀ {k} (hk : k < rows.length), _ := fun {k} hk => flatten_cut (k := k) hr hk
  have hb : rows.length * n ≤ 1000 * 1000 := Nat.mul_le_mul hl hn2
  have hjl : ∀ k, k ≤ rows.length → (Lib.join (rows.take k) [47]).length ≤ 2000 * k := by
    intro k
    induction k with
    | zero => intro _; simp [Lib.join_nil]
    | succ k ih =>
      intro hk
      rw [join_step (by omega)]
      have := ih (by omega)
      have := hr _ (List.getElem_mem (show k < rows.length by omega))
      split
      · omega
      · simp; omega
  have hj := hjl rows.length (Nat.le_refl _)
  rw [List.take_length] at hj
  have h1 := Spec.ren [(1000, 1001)] [(1001, 1000)] (join_spec rows [47] (by omega) (by omega)) rfl rfl rfl
  generalize hc : rows.flatten = cells at *
  generalize Lib.join rows [47] = jn at *
  refine Spec.of_wpx tt_ok Tryd.func83 (by kernel_rfl) rfl ?_
  (repeat' ((conv => whnf); first | refine CondVC.t ?_ | refine CondVC.f ?_ | refine CondVC.dec (fun h => ?_) (fun h => ?_) | refine CondVC.ndec (fun h => ?_) (fun h => ?_) | refine CondVC.mk (fun h => ?_) (fun h => ?_) | refine ArVC.i64 (by first | omega | (simp only; omega)) ?_ | refine SideVC.mk (by first | omega | decide | (simp only; omega) | (simp [slS]; done) | (simp [slS]; omega) | (simp only [byteE_len, mvE_len, strE_len, intE_len, esC_len, List.length_cons, List.length_nil, List.length_append, List.length_replicate, List.length_set, Int.toNat_natCast, and_true] at *; omega)) ?_ | refine LoopN.go ?_ | exact trivial | refine AltVC.mk ?_ ?_ | refine HeldVC.mk rfl ?_ | refine OpVC.more tt_ok ?_ | refine RestVC.ext tt_ok ?_)); all_goals (conv => whnf)
  refine LoopVC.mk (G := Nat) (fun k => ⟨[(4, .v (i64 (k * n : Nat))), (3, .v (.c (.sl 1001))), (1, .v (.c (.ptr 1 0)))], [(1001, .sl 9 1 (strE (rows.take k))), (1, .box 89 [.str cells, .int .i64 n])]⟩)
    (fun k => k ≤ rows.length) (fun k => rows.length - k) 0 (by omega) (Sub.mk [(1001, 5)] _ ⟨by rw [Nat.zero_mul]; rfl, rfl, rfl, trivial⟩ rfl rfl) ?_
  intro k hk
  have hml := strE_len (rows.take k)
  rw [List.length_take] at hml
  by_cases hlt : k < rows.length
  · have hk1 : (k + 1) * n ≤ rows.length * n := Nat.mul_le_mul (by omega) (Nat.le_refl _)
    have hk2 : (k + 1) * n = k * n + n := Nat.succ_mul k n
    have hcu := hcut hlt
    have hs : strE (rows.take (k + 1)) = strE (rows.take k) ++ [[.str rows[k]]] := by rw [List.take_succ_eq_append_getElem hlt, strE_append]; rfl
    generalize hp : k * n = p at *
    have hsl : slS cells (p : Int).toNat ((p : Int) + (n : Int)).toNat = rows[k] := by
      rw [← hcu, show ((p : Int) + (n : Int)).toNat = p + n by omega, Int.toNat_natCast]; rfl
    rw [← hsl] at hs
    (repeat' ((conv => whnf); first | refine CondVC.t ?_ | refine CondVC.f ?_ | refine CondVC.dec (fun h => ?_) (fun h => ?_) | refine CondVC.ndec (fun h => ?_) (fun h => ?_) | refine CondVC.mk (fun h => ?_) (fun h => ?_) | refine ArVC.i64 (by first | omega | (simp only; omega)) ?_ | refine SideVC.mk (by first | omega | decide | (simp only; omega) | (simp [slS]; done) | (simp [slS]; omega) | (simp only [byteE_len, mvE_len, strE_len, intE_len, esC_len, List.length_cons, List.length_nil, List.length_append, List.length_replicate, List.length_set, Int.toNat_natCast, and_true] at *; omega)) ?_ | refine LoopN.go ?_ | exact trivial | refine AltVC.mk ?_ ?_ | refine HeldVC.mk rfl ?_ | refine OpVC.more tt_ok ?_ | refine RestVC.ext tt_ok ?_)); all_goals (conv => whnf)
    all_goals first
      | (exfalso; omega)
      | exact ⟨k + 1, by omega, by omega, Sub.mk [(1001, 25)] _ ⟨congrArg (fun z => some (E.v (i64 z))) (show (p : Int) + (n : Int) = (((k + 1) * n : Nat) : Int) by omega), rfl, rfl, trivial⟩ (by rw [hs]; rfl) rfl⟩
  · have ek : k = rows.length := by omega
    subst ek
    rw [List.take_length]
    (repeat' ((conv => whnf); first | refine CondVC.t ?_ | refine CondVC.f ?_ | refine CondVC.dec (fun h => ?_) (fun h => ?_) | refine CondVC.ndec (fun h => ?_) (fun h => ?_) | refine CondVC.mk (fun h => ?_) (fun h => ?_) | refine ArVC.i64 (by first | omega | (simp only; omega)) ?_ | refine SideVC.mk (by first | omega | decide | (simp only; omega) | (simp [slS]; done) | (simp [slS]; omega) | (simp only [byteE_len, mvE_len, strE_len, intE_len, esC_len, List.length_cons, List.length_nil, List.length_append, List.length_replicate, List.length_set, Int.toNat_natCast, and_true] at *; omega)) ?_ | refine LoopN.go ?_ | exact trivial | refine AltVC.mk ?_ ?_ | refine HeldVC.mk rfl ?_ | refine CallVC.res [1001] rfl h1 rfl ?_ | refine OpVC.more tt_ok ?_ | refine RestVC.ext tt_ok ?_)); all_goals (conv => whnf)
    all_goals first
      | (exfalso; omega)
      | exact RetVC.res rfl rfl

def halvesF (w h : Int) : Bool := decide (0 ≤ w ∧ w ≤ 2) && decide (0 ≤ h ∧ h ≤ 2)
theorem halves_nat {w h : Int} (hq : halvesF w h = true) : ∃ m n : Nat, w = m ∧ h = n ∧ m ≤ 2 ∧ n ≤ 2 := by
  simp only [halvesF, Bool.and_eq_true, decide_eq_true_eq] at hq
  exact ⟨w.toNat, h.toNat, by omega, by omega, by omega, by omega⟩
def boardAskF (a b : UInt8) (w h : Int) : Tx := if halvesF w h then Lib.join (rowsF a b w.toNat h.toNat) [47] else []

/-! ### Last boards -/
theorem other_spec2 (b : UInt8) : Spec Tryd.prog 131 [.c (.int .u8 (b.toNat : Nat))] [] (isRes [.c (.int .u8 ((otherF b).toNat : Nat))] []) := by
  refine Spec.of_wpx tt_ok Tryd.func131 (by kernel_rfl) rfl ?_
  (repeat' ((conv => whnf); first | refine CondVC.t ?_ | refine CondVC.f ?_ | refine CondVC.dec (fun h => ?_) (fun h => ?_) | refine CondVC.ndec (fun h => ?_) (fun h => ?_) | refine CondVC.mk (fun h => ?_) (fun h => ?_) | refine ArVC.i64 (by first | omega | (simp only; omega)) ?_ | refine SideVC.mk (by first | omega | decide | (simp only; omega) | (simp [slS]; done) | (simp [slS]; omega) | (simp only [byteE_len, mvE_len, strE_len, intE_len, esC_len, List.length_cons, List.length_nil, List.length_append, List.length_replicate, List.length_set, Int.toNat_natCast, and_true] at *; omega)) ?_ | refine LoopN.go ?_ | exact trivial | refine AltVC.mk ?_ ?_ | refine HeldVC.mk rfl ?_ | refine OpVC.more tt_ok ?_ | refine RestVC.ext tt_ok ?_)); all_goals (conv => whnf)
  all_goals simp only [u8_84', u8_70'] at *
  all_goals exact RetVC.res (by simp [otherF, *]) rfl
theorem board_len (a b : UInt8) (w h : Int) : (boardAskF a b w h).length ≤ 1000000 := by
  unfold boardAskF
  by_cases hq : halvesF w h = true
  · obtain ⟨m, n, rfl, rfl, hm, hn⟩ := halves_nat hq
    rw [if_pos hq]
    simp only [Int.toNat_natCast]
    have hjl : ∀ (rows : List Tx) k, (∀ r ∈ rows, r.length ≤ 10) → k ≤ rows.length → (Lib.join (rows.take k) [47]).length ≤ 2000 * k := by
      intro rows k hr
      induction k with
      | zero => intro _; simp [Lib.join_nil]
      | succ k ih =>
        intro hk
        rw [join_step (by omega)]
        have := ih (by omega)
        have := hr _ (List.getElem_mem (show k < rows.length by omega))
        split
        · omega
        · simp; omega
    have := hjl (rowsF a b m n) (rowsF a b m n).length (fun r hr => by
      obtain ⟨k, _, rfl⟩ := List.mem_map.1 hr
      rw [rowF_len]; omega) (Nat.le_refl _)
    rw [List.take_length, rowsF_len] at this
    omega
  · rw [if_neg hq]; simp
theorem board_other (w h : Int) : (boardAskF 84 70 w h).map otherF = boardAskF 70 84 w h := by
  unfold boardAskF
  by_cases hq : halvesF w h = true
  · rw [if_pos hq, if_pos hq, join_map, rowsF_other]; rfl
  · rw [if_neg hq, if_neg hq]; rfl
end Go.Proofs.YtaidpalamhmghaaDoor.X
