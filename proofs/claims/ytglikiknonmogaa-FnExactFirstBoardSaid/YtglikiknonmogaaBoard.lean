/- First boards. No condition beyond each statement's. -/
import Derived.Test.YtglikiknonmogaaBoardF
import Derived.Test.YtglikiknonmogaaJoin
namespace Go.Proofs.Ytglikiknonmogaa.X
open Go.Proofs
set_option maxRecDepth 100000
set_option linter.unusedVariables false
set_option linter.unusedSimpArgs false

theorem u8_84' (b : UInt8) : (((b.toNat : Nat) : Int) = 84) ↔ b = 84 := by
  constructor
  · intro h
    apply UInt8.toNat.inj
    have : b.toNat = 84 := by omega
    exact this
  · rintro rfl; rfl
theorem u8_70' (b : UInt8) : (((b.toNat : Nat) : Int) = 70) ↔ b = 70 := by
  constructor
  · intro h
    apply UInt8.toNat.inj
    have : b.toNat = 70 := by omega
    exact this
  · rintro rfl; rfl

theorem liTimes_spec (s : Tx) (n : Nat) (hs : s.length ≤ 100) (hn : n ≤ 1000) : Spec Try.prog 59 [.c (.str s), i64 n] [] (isRes [.c (.str (rep s n))] []) := by
  refine Spec.of_wpx tt_ok Try.func59 (by kernel_rfl) rfl ?_
  (repeat' ((conv => whnf); first | refine CondVC.t ?_ | refine CondVC.f ?_ | refine CondVC.dec (fun h => ?_) (fun h => ?_) | refine CondVC.ndec (fun h => ?_) (fun h => ?_) | refine CondVC.mk (fun h => ?_) (fun h => ?_) | refine ArVC.i64 (by omega) ?_ | refine SideVC.mk (by first | omega | decide | (simp [slS]; done) | (simp [slS]; omega) | (simp only [byteE_len, mvE_len, strE_len, intE_len, esC_len, List.length_cons, List.length_nil, List.length_append, List.length_replicate, List.length_set, Int.toNat_natCast, and_true] at *; omega)) ?_ | refine LoopN.go ?_ | exact trivial | refine AltVC.mk ?_ ?_ | refine HeldVC.mk rfl ?_ | refine OpVC.more tt_ok ?_ | refine RestVC.ext tt_ok ?_)); all_goals (conv => whnf)
  refine LoopVC.mk (G := Nat) (fun k => ⟨[(5, .v (.c (.str (rep s k)))), (1, .v (i64 ((n : Int) - k))), (0, .v (.c (.str s)))], []⟩)
    (fun k => k ≤ n) (fun k => n - k) 0 (by omega) (Sub.mk [] [] ⟨rfl, congrArg (fun z => some (E.v (i64 z))) (show (n : Int) = (n : Int) - ((0 : Nat) : Int) by omega), rfl, trivial⟩ rfl rfl) ?_
  intro k hk
  have hl := rep_len s k
  have hle : k * s.length ≤ 1000 * 100 := Nat.mul_le_mul (by omega) hs
  by_cases hlt : k < n
  · (repeat' ((conv => whnf); first | refine CondVC.t ?_ | refine CondVC.f ?_ | refine CondVC.dec (fun h => ?_) (fun h => ?_) | refine CondVC.ndec (fun h => ?_) (fun h => ?_) | refine CondVC.mk (fun h => ?_) (fun h => ?_) | refine ArVC.i64 (by omega) ?_ | refine SideVC.mk (by first | omega | decide | (simp [slS]; done) | (simp [slS]; omega) | (simp only [byteE_len, mvE_len, strE_len, intE_len, esC_len, List.length_cons, List.length_nil, List.length_append, List.length_replicate, List.length_set, Int.toNat_natCast, and_true] at *; omega)) ?_ | refine LoopN.go ?_ | exact trivial | refine AltVC.mk ?_ ?_ | refine HeldVC.mk rfl ?_ | refine OpVC.more tt_ok ?_ | refine RestVC.ext tt_ok ?_)); all_goals (conv => whnf)
    all_goals first
      | (exfalso; omega)
      | exact ⟨k + 1, by omega, by omega, Sub.mk [] _ ⟨by rw [rep_succ]; rfl, congrArg (fun z => some (E.v (i64 z))) (show (n : Int) - k - 1 = (n : Int) - ((k + 1 : Nat) : Int) by omega), rfl, trivial⟩ rfl rfl⟩
  · (repeat' ((conv => whnf); first | refine CondVC.t ?_ | refine CondVC.f ?_ | refine CondVC.dec (fun h => ?_) (fun h => ?_) | refine CondVC.ndec (fun h => ?_) (fun h => ?_) | refine CondVC.mk (fun h => ?_) (fun h => ?_) | refine ArVC.i64 (by omega) ?_ | refine SideVC.mk (by first | omega | decide | (simp [slS]; done) | (simp [slS]; omega) | (simp only [byteE_len, mvE_len, strE_len, intE_len, esC_len, List.length_cons, List.length_nil, List.length_append, List.length_replicate, List.length_set, Int.toNat_natCast, and_true] at *; omega)) ?_ | refine LoopN.go ?_ | exact trivial | refine AltVC.mk ?_ ?_ | refine HeldVC.mk rfl ?_ | refine OpVC.more tt_ok ?_ | refine RestVC.ext tt_ok ?_)); all_goals (conv => whnf)
    all_goals first
      | (exfalso; omega)
      | exact RetVC.res (by rw [show k = n by omega]) rfl

theorem boText_spec (rows : List Tx) (hl : rows.length ≤ 1000) (hr : ∀ r ∈ rows, r.length ≤ 1000) : Spec Try.prog 50 [.c (.sl 1000)] [(1000, .sl 9 1 (strE rows))] (isRes [.c (.str (Lib.join rows [47]))] [(1000, .sl 9 1 (strE rows))]) := by
  have hml := strE_len rows
  refine Spec.of_wpx tt_ok Try.func50 (by kernel_rfl) rfl ?_
  (repeat' ((conv => whnf); first | refine CondVC.t ?_ | refine CondVC.f ?_ | refine CondVC.dec (fun h => ?_) (fun h => ?_) | refine CondVC.ndec (fun h => ?_) (fun h => ?_) | refine CondVC.mk (fun h => ?_) (fun h => ?_) | refine ArVC.i64 (by omega) ?_ | refine SideVC.mk (by first | omega | decide | (simp [slS]; done) | (simp [slS]; omega) | (simp only [byteE_len, mvE_len, strE_len, intE_len, esC_len, List.length_cons, List.length_nil, List.length_append, List.length_replicate, List.length_set, Int.toNat_natCast, and_true] at *; omega)) ?_ | refine LoopN.go ?_ | exact trivial | refine AltVC.mk ?_ ?_ | refine HeldVC.mk rfl ?_ | refine OpVC.more tt_ok ?_ | refine RestVC.ext tt_ok ?_)); all_goals (conv => whnf)
  refine LoopVC.mk (G := Nat) (fun k => ⟨[(8, .v (i64 k)), (7, .v (i64 rows.length)), (6, .v (.c (.sl 1000))), (3, .v (.c (.str (Lib.join (rows.take k) [47]))))], [(1000, .sl 9 1 (strE rows))]⟩)
    (fun k => k ≤ rows.length ∧ (Lib.join (rows.take k) [47]).length ≤ 2000 * k) (fun k => rows.length - k) 0 ⟨by omega, by simp [Lib.join_nil]⟩ (Sub.mk [] _ ⟨rfl, by rw [hml]; rfl, rfl, rfl, trivial⟩ rfl rfl) ?_
  intro k ⟨hk, hlen⟩
  by_cases hlt : k < rows.length
  · have g1 : (strE rows)[(k : Int).toNat]? = some [.str rows[k]] := by rw [Int.toNat_natCast]; exact strE_get hlt
    have hst := join_step (sep := [47]) hlt
    have hrk := hr _ (List.getElem_mem hlt)
    have h0 : k = 0 → Lib.join (rows.take k) [47] = [] := fun e => by subst e; rfl
    generalize Lib.join (rows.take k) [47] = j at *
    generalize rows[k] = r at *
    by_cases hz : k = 0
    · rw [if_pos hz] at hst
      have hj := h0 hz
      (repeat' ((conv => whnf); first | refine CondVC.t ?_ | refine CondVC.f ?_ | refine CondVC.dec (fun h => ?_) (fun h => ?_) | refine CondVC.ndec (fun h => ?_) (fun h => ?_) | refine CondVC.mk (fun h => ?_) (fun h => ?_) | refine ArVC.i64 (by omega) ?_ | refine SideVC.mk (by first | omega | decide | (simp [slS]; done) | (simp [slS]; omega) | (simp only [byteE_len, mvE_len, strE_len, intE_len, esC_len, List.length_cons, List.length_nil, List.length_append, List.length_replicate, List.length_set, Int.toNat_natCast, and_true] at *; omega)) ?_ | refine LoopN.go ?_ | exact trivial | refine AltVC.mk ?_ ?_ | refine HeldVC.mk rfl ?_ | refine LoadVC.mk _ g1 ?_ | refine SideVC.mk (by rw [hml]; omega) ?_ | refine SideVC.mk (by simp at *; omega) ?_ | refine OpVC.more tt_ok ?_ | refine RestVC.ext tt_ok ?_)); all_goals (conv => whnf)
      all_goals first
        | (exfalso; omega)
        | exact ⟨k + 1, ⟨by omega, by rw [hst]; omega⟩, by omega, Sub.mk [] _ ⟨rfl, rfl, rfl, by rw [hst, hj]; rfl, trivial⟩ rfl rfl⟩
    · rw [if_neg hz] at hst
      (repeat' ((conv => whnf); first | refine CondVC.t ?_ | refine CondVC.f ?_ | refine CondVC.dec (fun h => ?_) (fun h => ?_) | refine CondVC.ndec (fun h => ?_) (fun h => ?_) | refine CondVC.mk (fun h => ?_) (fun h => ?_) | refine ArVC.i64 (by omega) ?_ | refine SideVC.mk (by first | omega | decide | (simp [slS]; done) | (simp [slS]; omega) | (simp only [byteE_len, mvE_len, strE_len, intE_len, esC_len, List.length_cons, List.length_nil, List.length_append, List.length_replicate, List.length_set, Int.toNat_natCast, and_true] at *; omega)) ?_ | refine LoopN.go ?_ | exact trivial | refine AltVC.mk ?_ ?_ | refine HeldVC.mk rfl ?_ | refine LoadVC.mk _ g1 ?_ | refine SideVC.mk (by rw [hml]; omega) ?_ | refine SideVC.mk (by simp at *; omega) ?_ | refine OpVC.more tt_ok ?_ | refine RestVC.ext tt_ok ?_)); all_goals (conv => whnf)
      all_goals first
        | (exfalso; omega)
        | exact ⟨k + 1, ⟨by omega, by rw [hst]; simp; omega⟩, by omega, Sub.mk [] _ ⟨rfl, rfl, rfl, by rw [hst]; rfl, trivial⟩ rfl rfl⟩
  · (repeat' ((conv => whnf); first | refine CondVC.t ?_ | refine CondVC.f ?_ | refine CondVC.dec (fun h => ?_) (fun h => ?_) | refine CondVC.ndec (fun h => ?_) (fun h => ?_) | refine CondVC.mk (fun h => ?_) (fun h => ?_) | refine ArVC.i64 (by omega) ?_ | refine SideVC.mk (by first | omega | decide | (simp [slS]; done) | (simp [slS]; omega) | (simp only [byteE_len, mvE_len, strE_len, intE_len, esC_len, List.length_cons, List.length_nil, List.length_append, List.length_replicate, List.length_set, Int.toNat_natCast, and_true] at *; omega)) ?_ | refine LoopN.go ?_ | exact trivial | refine AltVC.mk ?_ ?_ | refine HeldVC.mk rfl ?_ | refine OpVC.more tt_ok ?_ | refine RestVC.ext tt_ok ?_)); all_goals (conv => whnf)
    all_goals first
      | (exfalso; omega)
      | exact RetVC.res (by rw [List.take_of_length_le (by omega)]) rfl

theorem rowsF_succ {a b : UInt8} {w h : Nat} (k : Nat) : strE ((List.range (k + 1)).map (rowF a b w h)) = strE ((List.range k).map (rowF a b w h)) ++ [[.str (rowF a b w h k)]] := by
  rw [List.range_succ, List.map_append, strE_append]; rfl
theorem boFirst_spec (w g : Nat) (hw : w ≤ 2) (hh : g ≤ 2) (a b : UInt8) : Spec Try.prog 51 [i64 w, i64 g, .c (.str [a]), .c (.str [b])] [] (isRes [.c (.sl 1001)] [(1001, .sl 9 1 (strE (rowsF a b w g)))]) := by
  have h1 := liTimes_spec [a] w (by simp) (by omega)
  have h2 := liTimes_spec [b] w (by simp) (by omega)
  have l1 := rep_len [a] w
  have l2 := rep_len [b] w
  simp only [List.length_cons, List.length_nil, Nat.zero_add, Nat.mul_one] at l1 l2
  refine Spec.of_wpx tt_ok Try.func51 (by kernel_rfl) rfl ?_
  (repeat' ((conv => whnf); first | refine CondVC.t ?_ | refine CondVC.f ?_ | refine CondVC.dec (fun h => ?_) (fun h => ?_) | refine CondVC.ndec (fun h => ?_) (fun h => ?_) | refine CondVC.mk (fun h => ?_) (fun h => ?_) | refine ArVC.i64 (by omega) ?_ | refine SideVC.mk (by first | omega | decide | (simp [slS]; done) | (simp [slS]; omega) | (simp only [byteE_len, mvE_len, strE_len, intE_len, esC_len, List.length_cons, List.length_nil, List.length_append, List.length_replicate, List.length_set, Int.toNat_natCast, and_true] at *; omega)) ?_ | refine LoopN.go ?_ | exact trivial | refine AltVC.mk ?_ ?_ | refine HeldVC.mk rfl ?_ | refine OpVC.more tt_ok ?_ | refine RestVC.ext tt_ok ?_)); all_goals (conv => whnf)
  refine LoopVC.mk (G := Nat) (fun k => ⟨[(10, .v (i64 ((k : Int) - g))), (9, .v (.c (.sl 1001))), (3, .v (.c (.str [b]))), (2, .v (.c (.str [a]))), (1, .v (i64 g)), (0, .v (i64 w))], [(1001, .sl 9 1 (strE ((List.range k).map (rowF a b w g))))]⟩)
    (fun k => k ≤ 2 * g + 1) (fun k => 2 * g + 1 - k) 0 (by omega) (Sub.nil 1001 9 1 ⟨congrArg (fun z => some (E.v (i64 z))) (show -(g : Int) = ((0 : Nat) : Int) - (g : Int) by omega), rfl, rfl, rfl, rfl, rfl, trivial⟩ rfl rfl) ?_
  intro k hk
  have hml := strE_len ((List.range k).map (rowF a b w g))
  rw [List.length_map, List.length_range] at hml
  have hs := rowsF_succ (a := a) (b := b) (w := w) (h := g) k
  have hend : k = 2 * g + 1 → strE ((List.range k).map (rowF a b w g)) = strE (rowsF a b w g) := fun e => by subst e; rfl
  by_cases c0 : k = 2 * g + 1
  · rw [hend c0]
    (repeat' ((conv => whnf); first | refine CondVC.t ?_ | refine CondVC.f ?_ | refine CondVC.dec (fun h => ?_) (fun h => ?_) | refine CondVC.ndec (fun h => ?_) (fun h => ?_) | refine CondVC.mk (fun h => ?_) (fun h => ?_) | refine ArVC.i64 (by omega) ?_ | refine SideVC.mk (by first | omega | decide | (simp [slS]; done) | (simp [slS]; omega) | (simp only [byteE_len, mvE_len, strE_len, intE_len, esC_len, List.length_cons, List.length_nil, List.length_append, List.length_replicate, List.length_set, Int.toNat_natCast, and_true] at *; omega)) ?_ | refine LoopN.go ?_ | exact trivial | refine AltVC.mk ?_ ?_ | refine HeldVC.mk rfl ?_ | refine OpVC.more tt_ok ?_ | refine RestVC.ext tt_ok ?_)); all_goals (conv => whnf)
    all_goals first
      | (exfalso; omega)
      | exact RetVC.res rfl rfl
  by_cases c1 : k < g
  · have er : rowF a b w g k = rep [a] w ++ [a] ++ rep [b] w := by unfold rowF midF; rw [if_pos c1]
    rw [er] at hs
    generalize rep [a] w = ra at h1 l1 hs
    generalize rep [b] w = rb at h2 l2 hs
    (repeat' ((conv => whnf); first | refine CondVC.t ?_ | refine CondVC.f ?_ | refine CondVC.dec (fun h => ?_) (fun h => ?_) | refine CondVC.ndec (fun h => ?_) (fun h => ?_) | refine CondVC.mk (fun h => ?_) (fun h => ?_) | refine ArVC.i64 (by omega) ?_ | refine SideVC.mk (by first | omega | decide | (simp [slS]; done) | (simp [slS]; omega) | (simp only [byteE_len, mvE_len, strE_len, intE_len, esC_len, List.length_cons, List.length_nil, List.length_append, List.length_replicate, List.length_set, Int.toNat_natCast, and_true] at *; omega)) ?_ | refine LoopN.go ?_ | exact trivial | refine AltVC.mk ?_ ?_ | refine HeldVC.mk rfl ?_ | refine CallVC.pure h1 rfl ?_ | refine CallVC.pure h2 rfl ?_ | refine SideVC.mk (by simp at *; omega) ?_ | refine OpVC.more tt_ok ?_ | refine RestVC.ext tt_ok ?_)); all_goals (conv => whnf)
    all_goals first
      | (exfalso; omega)
      | exact ⟨k + 1, by omega, by omega, Sub.mk [(1001, 36)] _ ⟨congrArg (fun z => some (E.v (i64 z))) (show (k : Int) - g + 1 = ((k + 1 : Nat) : Int) - (g : Int) by omega), rfl, rfl, rfl, rfl, rfl, trivial⟩ (by rw [hs]; rfl) rfl⟩
  by_cases c2 : k = g
  · have er : rowF a b w g k = rep [a] w ++ [46] ++ rep [b] w := by unfold rowF midF; rw [if_neg c1, if_pos c2]
    rw [er] at hs
    generalize rep [a] w = ra at h1 l1 hs
    generalize rep [b] w = rb at h2 l2 hs
    (repeat' ((conv => whnf); first | refine CondVC.t ?_ | refine CondVC.f ?_ | refine CondVC.dec (fun h => ?_) (fun h => ?_) | refine CondVC.ndec (fun h => ?_) (fun h => ?_) | refine CondVC.mk (fun h => ?_) (fun h => ?_) | refine ArVC.i64 (by omega) ?_ | refine SideVC.mk (by first | omega | decide | (simp [slS]; done) | (simp [slS]; omega) | (simp only [byteE_len, mvE_len, strE_len, intE_len, esC_len, List.length_cons, List.length_nil, List.length_append, List.length_replicate, List.length_set, Int.toNat_natCast, and_true] at *; omega)) ?_ | refine LoopN.go ?_ | exact trivial | refine AltVC.mk ?_ ?_ | refine HeldVC.mk rfl ?_ | refine CallVC.pure h1 rfl ?_ | refine CallVC.pure h2 rfl ?_ | refine SideVC.mk (by simp at *; omega) ?_ | refine OpVC.more tt_ok ?_ | refine RestVC.ext tt_ok ?_)); all_goals (conv => whnf)
    all_goals first
      | (exfalso; omega)
      | exact ⟨k + 1, by omega, by omega, Sub.mk [(1001, 36)] _ ⟨congrArg (fun z => some (E.v (i64 z))) (show (k : Int) - g + 1 = ((k + 1 : Nat) : Int) - (g : Int) by omega), rfl, rfl, rfl, rfl, rfl, trivial⟩ (by rw [hs]; rfl) rfl⟩
  · have er : rowF a b w g k = rep [a] w ++ [b] ++ rep [b] w := by unfold rowF midF; rw [if_neg c1, if_neg c2]
    rw [er] at hs
    generalize rep [a] w = ra at h1 l1 hs
    generalize rep [b] w = rb at h2 l2 hs
    (repeat' ((conv => whnf); first | refine CondVC.t ?_ | refine CondVC.f ?_ | refine CondVC.dec (fun h => ?_) (fun h => ?_) | refine CondVC.ndec (fun h => ?_) (fun h => ?_) | refine CondVC.mk (fun h => ?_) (fun h => ?_) | refine ArVC.i64 (by omega) ?_ | refine SideVC.mk (by first | omega | decide | (simp [slS]; done) | (simp [slS]; omega) | (simp only [byteE_len, mvE_len, strE_len, intE_len, esC_len, List.length_cons, List.length_nil, List.length_append, List.length_replicate, List.length_set, Int.toNat_natCast, and_true] at *; omega)) ?_ | refine LoopN.go ?_ | exact trivial | refine AltVC.mk ?_ ?_ | refine HeldVC.mk rfl ?_ | refine CallVC.pure h1 rfl ?_ | refine CallVC.pure h2 rfl ?_ | refine SideVC.mk (by simp at *; omega) ?_ | refine OpVC.more tt_ok ?_ | refine RestVC.ext tt_ok ?_)); all_goals (conv => whnf)
    all_goals first
      | (exfalso; omega)
      | exact ⟨k + 1, by omega, by omega, Sub.mk [(1001, 36)] _ ⟨congrArg (fun z => some (E.v (i64 z))) (show (k : Int) - g + 1 = ((k + 1 : Nat) : Int) - (g : Int) by omega), rfl, rfl, rfl, rfl, rfl, trivial⟩ (by rw [hs]; rfl) rfl⟩

/-! ### The program's -/
theorem repeatL_rep (s : Tx) (n : Nat) : Lib.repeatL s n = rep s n := by
  induction n with
  | zero => rfl
  | succ n ih =>
    rw [Lib.repeatL, ih]
    unfold rep
    rw [List.replicate_succ, List.flatten_cons]
theorem rep_spec (s : Tx) (n : Nat) (hs : s.length ≤ 100) (hn : n ≤ 1000) : Spec Try.prog 61 [.c (.str s), i64 n] [] (isRes [.c (.str (rep s n))] []) := by
  have hle : s.length * n ≤ 100 * 1000 := Nat.mul_le_mul hs hn
  rw [← repeatL_rep]
  exact repeat_spec s n (by omega) (by omega)
theorem enc84 : (Utf8.encode (84 : Int)).data.toList = [84] := by decide
theorem enc70 : (Utf8.encode (70 : Int)).data.toList = [70] := by decide
theorem enc46 : (Utf8.encode (46 : Int)).data.toList = [46] := by decide
theorem ordered_spec (x y z : Nat) (hx : x ≤ 100) (hy : y ≤ 100) (hz : z ≤ 100) :
    Spec Try.prog 63 [.c (.int .u8 84), i64 x, i64 y, .c (.int .u8 70), i64 z] [] (isRes [.c (.str (rep [84] x ++ rep [46] y ++ rep [70] z))] []) := by
  have h1 := rep_spec [84] x (by simp) (by omega)
  have h2 := rep_spec [46] y (by simp) (by omega)
  have h3 := rep_spec [70] z (by simp) (by omega)
  have l1 := rep_len [84] x
  have l2 := rep_len [46] y
  have l3 := rep_len [70] z
  simp only [List.length_cons, List.length_nil, Nat.zero_add, Nat.mul_one] at l1 l2 l3
  generalize rep [84] x = a at *
  generalize rep [46] y = b at *
  generalize rep [70] z = c at *
  rw [← enc84] at h1
  rw [← enc70] at h3
  refine Spec.of_wpx tt_ok Try.func63 (by kernel_rfl) rfl ?_
  (repeat' ((conv => whnf); first | refine CondVC.t ?_ | refine CondVC.f ?_ | refine CondVC.dec (fun h => ?_) (fun h => ?_) | refine CondVC.ndec (fun h => ?_) (fun h => ?_) | refine CondVC.mk (fun h => ?_) (fun h => ?_) | refine ArVC.i64 (by omega) ?_ | refine SideVC.mk (by first | omega | decide | (simp [slS]; done) | (simp [slS]; omega) | (simp only [byteE_len, mvE_len, strE_len, intE_len, esC_len, List.length_cons, List.length_nil, List.length_append, List.length_replicate, List.length_set, Int.toNat_natCast, and_true] at *; omega)) ?_ | refine LoopN.go ?_ | exact trivial | refine AltVC.mk ?_ ?_ | refine HeldVC.mk rfl ?_ | refine CallVC.pure h1 rfl ?_ | refine CallVC.pure h2 rfl ?_ | refine CallVC.pure h3 rfl ?_ | refine SideVC.mk (by simp at *; omega) ?_ | refine OpVC.more tt_ok ?_ | refine RestVC.ext tt_ok ?_)); all_goals (conv => whnf)
  all_goals exact RetVC.res rfl rfl
theorem first_spec (x y z : Nat) (hx : x ≤ 100) (hy : y ≤ 100) (hz : z ≤ 100) :
    Spec Try.prog 60 [i64 x, i64 y, i64 z] [] (isRes [.c (.str (rep [84] x ++ rep [46] y ++ rep [70] z))] []) := by
  have h1 := ordered_spec x y z hx hy hz
  generalize rep [84] x ++ rep [46] y ++ rep [70] z = a at *
  refine Spec.of_wpx tt_ok Try.func60 (by kernel_rfl) rfl ?_
  (repeat' ((conv => whnf); first | refine CondVC.t ?_ | refine CondVC.f ?_ | refine CondVC.dec (fun h => ?_) (fun h => ?_) | refine CondVC.ndec (fun h => ?_) (fun h => ?_) | refine CondVC.mk (fun h => ?_) (fun h => ?_) | refine ArVC.i64 (by omega) ?_ | refine SideVC.mk (by first | omega | decide | (simp [slS]; done) | (simp [slS]; omega) | (simp only [byteE_len, mvE_len, strE_len, intE_len, esC_len, List.length_cons, List.length_nil, List.length_append, List.length_replicate, List.length_set, Int.toNat_natCast, and_true] at *; omega)) ?_ | refine LoopN.go ?_ | exact trivial | refine AltVC.mk ?_ ?_ | refine HeldVC.mk rfl ?_ | refine CallVC.pure h1 rfl ?_ | refine OpVC.more tt_ok ?_ | refine RestVC.ext tt_ok ?_)); all_goals (conv => whnf)
  all_goals exact RetVC.res rfl rfl

theorem midF_cs (g k : Nat) : midF 84 70 g k = 84 ∨ midF 84 70 g k = 46 ∨ midF 84 70 g k = 70 := by
  unfold midF
  split
  · exact .inl rfl
  · split
    · exact .inr (.inl rfl)
    · exact .inr (.inr rfl)
def cellsTo (w g k : Nat) : Tx := ((List.range k).map (rowF 84 70 w g)).flatten
theorem cellsTo_succ (w g k : Nat) : cellsTo w g (k + 1) = cellsTo w g k ++ rowF 84 70 w g k := by
  unfold cellsTo
  rw [List.range_succ, List.map_append, List.flatten_append]
  simp
theorem cellsTo_len (w g k : Nat) : (cellsTo w g k).length = k * (2 * w + 1) := by
  induction k with
  | zero => simp [cellsTo]
  | succ k ih => rw [cellsTo_succ, List.length_append, ih, rowF_len, Nat.add_mul, Nat.one_mul]
theorem firstBoard1_spec (w g : Nat) (hw : w ≤ 2) (hg : g ≤ 2) : Spec Try.prog 53 [i64 w, i64 g] [] (isRes [.agg [.str (rowsF 84 70 w g).flatten, .int .i64 (2 * w + 1)]] []) := by
  have h1 := first_spec g 1 g (by omega) (by omega) (by omega)
  have hcl := colF_len g
  have hcg : ∀ {k}, k < 2 * g + 1 → _ := fun {k} hk => colF_get (h := g) hk
  have e0 : rep [84] g ++ rep [46] 1 ++ rep [70] g = colF g := rfl
  rw [e0] at h1
  have h2 := rep_spec [84] w (by simp) (by omega)
  have h3 := rep_spec [70] w (by simp) (by omega)
  have l1 := rep_len [84] w
  have l2 := rep_len [70] w
  simp only [List.length_cons, List.length_nil, Nat.zero_add, Nat.mul_one] at l1 l2
  have hend : (rowsF 84 70 w g).flatten = cellsTo w g (2 * g + 1) := rfl
  rw [hend]
  have hz : cellsTo w g 0 = [] := rfl
  generalize colF g = col at *
  refine Spec.of_wpx tt_ok Try.func53 (by kernel_rfl) rfl ?_
  (repeat' ((conv => whnf); first | refine CondVC.t ?_ | refine CondVC.f ?_ | refine CondVC.dec (fun h => ?_) (fun h => ?_) | refine CondVC.ndec (fun h => ?_) (fun h => ?_) | refine CondVC.mk (fun h => ?_) (fun h => ?_) | refine ArVC.i64 (by omega) ?_ | refine SideVC.mk (by first | omega | decide | (simp [slS]; done) | (simp [slS]; omega) | (simp only [byteE_len, mvE_len, strE_len, intE_len, esC_len, List.length_cons, List.length_nil, List.length_append, List.length_replicate, List.length_set, Int.toNat_natCast, and_true] at *; omega)) ?_ | refine LoopN.go ?_ | exact trivial | refine AltVC.mk ?_ ?_ | refine HeldVC.mk rfl ?_ | refine CallVC.pure h1 rfl ?_ | refine OpVC.more tt_ok ?_ | refine RestVC.ext tt_ok ?_)); all_goals (conv => whnf)
  refine LoopVC.mk (G := Nat) (fun k => ⟨[(11, .v (.c (.ptr 11 0))), (5, .v (.c (.str (cellsTo w g k)))), (4, .v (.c (.ptr 4 0))), (1, .v (i64 g)), (0, .v (i64 w))], [(11, .ext (.it col k)), (4, .box 74 [.str [], .int .i64 0])]⟩)
    (fun k => k ≤ 2 * g + 1) (fun k => 2 * g + 1 - k) 0 (by omega) (Sub.mk [] _ ⟨rfl, by rw [hz]; rfl, rfl, rfl, rfl, trivial⟩ rfl rfl) ?_
  intro k hk
  have hlen := cellsTo_len w g k
  have hs := cellsTo_succ w g k
  have hle : k * (2 * w + 1) ≤ 5 * 5 := Nat.mul_le_mul (by omega) (by omega)
  by_cases hlt : k < 2 * g + 1
  · have hget := hcg hlt
    unfold rowF at hs
    rcases midF_cs g k with hm | hm | hm
    · rw [hm] at hs hget
      generalize rep [84] w = ra at h2 l1 hs
      generalize rep [70] w = rb at h3 l2 hs
      have he : (Utf8.encode (((col.getD k 0).toNat : Nat) : Int)).data.toList = [84] := by rw [hget]; exact enc84
      (repeat' ((conv => whnf); first | refine CondVC.t ?_ | refine CondVC.f ?_ | refine CondVC.dec (fun h => ?_) (fun h => ?_) | refine CondVC.ndec (fun h => ?_) (fun h => ?_) | refine CondVC.mk (fun h => ?_) (fun h => ?_) | refine ArVC.i64 (by omega) ?_ | refine SideVC.mk (by first | omega | decide | (simp [slS]; done) | (simp [slS]; omega) | (simp only [byteE_len, mvE_len, strE_len, intE_len, esC_len, List.length_cons, List.length_nil, List.length_append, List.length_replicate, List.length_set, Int.toNat_natCast, and_true] at *; omega)) ?_ | refine LoopN.go ?_ | exact trivial | refine AltVC.mk ?_ ?_ | refine HeldVC.mk rfl ?_ | refine NextVC.mk (fun hlt' => ⟨by rw [hget]; decide, ?_⟩) (fun hle' => ?_) | refine CallVC.pure h2 rfl ?_ | refine CallVC.pure h3 rfl ?_ | refine SideVC.mk (by simp only [he, List.length_append, List.length_cons, List.length_nil] at *; omega) ?_ | refine OpVC.more tt_ok ?_ | refine RestVC.ext tt_ok ?_)); all_goals (conv => whnf)
      all_goals first
        | (exfalso; omega)
        | exact ⟨k + 1, by omega, by omega, Sub.mk [] _ ⟨rfl, congrArg (fun z => some (E.v (.c (.str z)))) (show cellsTo w g k ++ (ra ++ (Utf8.encode (((col.getD k 0).toNat : Nat) : Int)).data.toList ++ rb) = cellsTo w g (k + 1) by rw [hs, he]), rfl, rfl, rfl, trivial⟩ rfl rfl⟩
    · rw [hm] at hs hget
      generalize rep [84] w = ra at h2 l1 hs
      generalize rep [70] w = rb at h3 l2 hs
      have he : (Utf8.encode (((col.getD k 0).toNat : Nat) : Int)).data.toList = [46] := by rw [hget]; exact enc46
      (repeat' ((conv => whnf); first | refine CondVC.t ?_ | refine CondVC.f ?_ | refine CondVC.dec (fun h => ?_) (fun h => ?_) | refine CondVC.ndec (fun h => ?_) (fun h => ?_) | refine CondVC.mk (fun h => ?_) (fun h => ?_) | refine ArVC.i64 (by omega) ?_ | refine SideVC.mk (by first | omega | decide | (simp [slS]; done) | (simp [slS]; omega) | (simp only [byteE_len, mvE_len, strE_len, intE_len, esC_len, List.length_cons, List.length_nil, List.length_append, List.length_replicate, List.length_set, Int.toNat_natCast, and_true] at *; omega)) ?_ | refine LoopN.go ?_ | exact trivial | refine AltVC.mk ?_ ?_ | refine HeldVC.mk rfl ?_ | refine NextVC.mk (fun hlt' => ⟨by rw [hget]; decide, ?_⟩) (fun hle' => ?_) | refine CallVC.pure h2 rfl ?_ | refine CallVC.pure h3 rfl ?_ | refine SideVC.mk (by simp only [he, List.length_append, List.length_cons, List.length_nil] at *; omega) ?_ | refine OpVC.more tt_ok ?_ | refine RestVC.ext tt_ok ?_)); all_goals (conv => whnf)
      all_goals first
        | (exfalso; omega)
        | exact ⟨k + 1, by omega, by omega, Sub.mk [] _ ⟨rfl, congrArg (fun z => some (E.v (.c (.str z)))) (show cellsTo w g k ++ (ra ++ (Utf8.encode (((col.getD k 0).toNat : Nat) : Int)).data.toList ++ rb) = cellsTo w g (k + 1) by rw [hs, he]), rfl, rfl, rfl, trivial⟩ rfl rfl⟩
    · rw [hm] at hs hget
      generalize rep [84] w = ra at h2 l1 hs
      generalize rep [70] w = rb at h3 l2 hs
      have he : (Utf8.encode (((col.getD k 0).toNat : Nat) : Int)).data.toList = [70] := by rw [hget]; exact enc70
      (repeat' ((conv => whnf); first | refine CondVC.t ?_ | refine CondVC.f ?_ | refine CondVC.dec (fun h => ?_) (fun h => ?_) | refine CondVC.ndec (fun h => ?_) (fun h => ?_) | refine CondVC.mk (fun h => ?_) (fun h => ?_) | refine ArVC.i64 (by omega) ?_ | refine SideVC.mk (by first | omega | decide | (simp [slS]; done) | (simp [slS]; omega) | (simp only [byteE_len, mvE_len, strE_len, intE_len, esC_len, List.length_cons, List.length_nil, List.length_append, List.length_replicate, List.length_set, Int.toNat_natCast, and_true] at *; omega)) ?_ | refine LoopN.go ?_ | exact trivial | refine AltVC.mk ?_ ?_ | refine HeldVC.mk rfl ?_ | refine NextVC.mk (fun hlt' => ⟨by rw [hget]; decide, ?_⟩) (fun hle' => ?_) | refine CallVC.pure h2 rfl ?_ | refine CallVC.pure h3 rfl ?_ | refine SideVC.mk (by simp only [he, List.length_append, List.length_cons, List.length_nil] at *; omega) ?_ | refine OpVC.more tt_ok ?_ | refine RestVC.ext tt_ok ?_)); all_goals (conv => whnf)
      all_goals first
        | (exfalso; omega)
        | exact ⟨k + 1, by omega, by omega, Sub.mk [] _ ⟨rfl, congrArg (fun z => some (E.v (.c (.str z)))) (show cellsTo w g k ++ (ra ++ (Utf8.encode (((col.getD k 0).toNat : Nat) : Int)).data.toList ++ rb) = cellsTo w g (k + 1) by rw [hs, he]), rfl, rfl, rfl, trivial⟩ rfl rfl⟩
  · (repeat' ((conv => whnf); first | refine CondVC.t ?_ | refine CondVC.f ?_ | refine CondVC.dec (fun h => ?_) (fun h => ?_) | refine CondVC.ndec (fun h => ?_) (fun h => ?_) | refine CondVC.mk (fun h => ?_) (fun h => ?_) | refine ArVC.i64 (by omega) ?_ | refine SideVC.mk (by first | omega | decide | (simp [slS]; done) | (simp [slS]; omega) | (simp only [byteE_len, mvE_len, strE_len, intE_len, esC_len, List.length_cons, List.length_nil, List.length_append, List.length_replicate, List.length_set, Int.toNat_natCast, and_true] at *; omega)) ?_ | refine LoopN.go ?_ | exact trivial | refine AltVC.mk ?_ ?_ | refine HeldVC.mk rfl ?_ | refine NextVC.mk (fun hlt' => absurd hlt' (by omega)) (fun hle' => ?_) | refine OpVC.more tt_ok ?_ | refine RestVC.ext tt_ok ?_)); all_goals (conv => whnf)
    all_goals first
      | (exfalso; omega)
      | exact RetVC.res (by rw [show k = 2 * g + 1 by omega]; rfl) rfl

theorem text_spec (rows : List Tx) (n : Nat) (hn : 1 ≤ n) (hn2 : n ≤ 1000) (hl : rows.length ≤ 1000) (hr : ∀ r ∈ rows, r.length = n) :
    Spec Try.prog 54 [.agg [.str rows.flatten, .int .i64 n]] [] (isRes [.c (.str (Lib.join rows [47]))] []) := by
  have hfl := flatten_len hr
  have hcut : ∀ {k} (hk : k < rows.length), _ := fun {k} hk => flatten_cut (k := k) hr hk
  have hb : rows.length * n ≤ 1000 * 1000 := Nat.mul_le_mul hl hn2
  have hjl : ∀ k, k ≤ rows.length → (Lib.join (rows.take k) [47]).length ≤ 2000 * k := by
    intro k
    induction k with
    | zero => intro _; simp [Lib.join_nil]
    | succ k ih =>
      intro hk
      rw [join_step (by omega)]
      have := ih (by omega)
      have := hr _ (List.getElem_mem (show k < rows.length by omega))
      split
      · omega
      · simp; omega
  have hj := hjl rows.length (Nat.le_refl _)
  rw [List.take_length] at hj
  have h1 := Spec.ren [(1000, 1001)] [(1001, 1000)] (join_spec rows [47] (by omega) (by omega)) rfl rfl rfl
  generalize hc : rows.flatten = cells at *
  generalize Lib.join rows [47] = jn at *
  refine Spec.of_wpx tt_ok Try.func54 (by kernel_rfl) rfl ?_
  (repeat' ((conv => whnf); first | refine CondVC.t ?_ | refine CondVC.f ?_ | refine CondVC.dec (fun h => ?_) (fun h => ?_) | refine CondVC.ndec (fun h => ?_) (fun h => ?_) | refine CondVC.mk (fun h => ?_) (fun h => ?_) | refine ArVC.i64 (by omega) ?_ | refine SideVC.mk (by first | omega | decide | (simp [slS]; done) | (simp [slS]; omega) | (simp only [byteE_len, mvE_len, strE_len, intE_len, esC_len, List.length_cons, List.length_nil, List.length_append, List.length_replicate, List.length_set, Int.toNat_natCast, and_true] at *; omega)) ?_ | refine LoopN.go ?_ | exact trivial | refine AltVC.mk ?_ ?_ | refine HeldVC.mk rfl ?_ | refine OpVC.more tt_ok ?_ | refine RestVC.ext tt_ok ?_)); all_goals (conv => whnf)
  refine LoopVC.mk (G := Nat) (fun k => ⟨[(4, .v (i64 (k * n : Nat))), (3, .v (.c (.sl 1001))), (1, .v (.c (.ptr 1 0)))], [(1001, .sl 9 1 (strE (rows.take k))), (1, .box 74 [.str cells, .int .i64 n])]⟩)
    (fun k => k ≤ rows.length) (fun k => rows.length - k) 0 (by omega) (Sub.mk [(1001, 5)] _ ⟨by rw [Nat.zero_mul]; rfl, rfl, rfl, trivial⟩ rfl rfl) ?_
  intro k hk
  have hml := strE_len (rows.take k)
  rw [List.length_take] at hml
  by_cases hlt : k < rows.length
  · have hk1 : (k + 1) * n ≤ rows.length * n := Nat.mul_le_mul (by omega) (Nat.le_refl _)
    have hk2 : (k + 1) * n = k * n + n := Nat.succ_mul k n
    have hcu := hcut hlt
    have hs : strE (rows.take (k + 1)) = strE (rows.take k) ++ [[.str rows[k]]] := by rw [List.take_succ_eq_append_getElem hlt, strE_append]; rfl
    generalize hp : k * n = p at *
    have hsl : slS cells (p : Int).toNat ((p : Int) + (n : Int)).toNat = rows[k] := by
      rw [← hcu, show ((p : Int) + (n : Int)).toNat = p + n by omega, Int.toNat_natCast]; rfl
    rw [← hsl] at hs
    (repeat' ((conv => whnf); first | refine CondVC.t ?_ | refine CondVC.f ?_ | refine CondVC.dec (fun h => ?_) (fun h => ?_) | refine CondVC.ndec (fun h => ?_) (fun h => ?_) | refine CondVC.mk (fun h => ?_) (fun h => ?_) | refine ArVC.i64 (by omega) ?_ | refine SideVC.mk (by first | omega | decide | (simp [slS]; done) | (simp [slS]; omega) | (simp only [byteE_len, mvE_len, strE_len, intE_len, esC_len, List.length_cons, List.length_nil, List.length_append, List.length_replicate, List.length_set, Int.toNat_natCast, and_true] at *; omega)) ?_ | refine LoopN.go ?_ | exact trivial | refine AltVC.mk ?_ ?_ | refine HeldVC.mk rfl ?_ | refine OpVC.more tt_ok ?_ | refine RestVC.ext tt_ok ?_)); all_goals (conv => whnf)
    all_goals first
      | (exfalso; omega)
      | exact ⟨k + 1, by omega, by omega, Sub.mk [(1001, 25)] _ ⟨congrArg (fun z => some (E.v (i64 z))) (show (p : Int) + (n : Int) = (((k + 1) * n : Nat) : Int) by omega), rfl, rfl, trivial⟩ (by rw [hs]; rfl) rfl⟩
  · have ek : k = rows.length := by omega
    subst ek
    rw [List.take_length]
    (repeat' ((conv => whnf); first | refine CondVC.t ?_ | refine CondVC.f ?_ | refine CondVC.dec (fun h => ?_) (fun h => ?_) | refine CondVC.ndec (fun h => ?_) (fun h => ?_) | refine CondVC.mk (fun h => ?_) (fun h => ?_) | refine ArVC.i64 (by omega) ?_ | refine SideVC.mk (by first | omega | decide | (simp [slS]; done) | (simp [slS]; omega) | (simp only [byteE_len, mvE_len, strE_len, intE_len, esC_len, List.length_cons, List.length_nil, List.length_append, List.length_replicate, List.length_set, Int.toNat_natCast, and_true] at *; omega)) ?_ | refine LoopN.go ?_ | exact trivial | refine AltVC.mk ?_ ?_ | refine HeldVC.mk rfl ?_ | refine CallVC.res [1001] rfl h1 rfl ?_ | refine OpVC.more tt_ok ?_ | refine RestVC.ext tt_ok ?_)); all_goals (conv => whnf)
    all_goals first
      | (exfalso; omega)
      | exact RetVC.res rfl rfl

def halvesF (w h : Int) : Bool := decide (0 ≤ w ∧ w ≤ 2) && decide (0 ≤ h ∧ h ≤ 2)
theorem areHalves_spec (w h : Int) : Spec Try.prog 52 [i64 w, i64 h] [] (isRes [vb (halvesF w h)] []) := by
  have h1 := within_spec w 0 2
  have h2 := within_spec h 0 2
  unfold halvesF
  refine Spec.of_wpx tt_ok Try.func52 (by kernel_rfl) rfl ?_
  cases hd : decide (0 ≤ w ∧ w ≤ 2) <;> rw [hd] at h1
  all_goals
    (repeat' ((conv => whnf); first | refine CondVC.t ?_ | refine CondVC.f ?_ | refine CondVC.dec (fun h => ?_) (fun h => ?_) | refine CondVC.ndec (fun h => ?_) (fun h => ?_) | refine CondVC.mk (fun h => ?_) (fun h => ?_) | refine ArVC.i64 (by omega) ?_ | refine SideVC.mk (by first | omega | decide | (simp [slS]; done) | (simp [slS]; omega) | (simp only [byteE_len, mvE_len, strE_len, intE_len, esC_len, List.length_cons, List.length_nil, List.length_append, List.length_replicate, List.length_set, Int.toNat_natCast, and_true] at *; omega)) ?_ | refine LoopN.go ?_ | exact trivial | refine AltVC.mk ?_ ?_ | refine HeldVC.mk rfl ?_ | refine CallVC.pure h1 rfl ?_ | refine CallVC.pure h2 rfl ?_ | refine OpVC.more tt_ok ?_ | refine RestVC.ext tt_ok ?_)); all_goals (conv => whnf)
    all_goals exact RetVC.res rfl rfl
theorem boHalves_spec (w h : Int) : Spec Try.prog 49 [i64 w, i64 h] [] (isRes [vb (halvesF w h)] []) := by
  have h1 := l1In_spec w 0 2
  have h2 := l1In_spec h 0 2
  unfold halvesF
  refine Spec.of_wpx tt_ok Try.func49 (by kernel_rfl) rfl ?_
  cases hd : decide (0 ≤ w ∧ w ≤ 2) <;> rw [hd] at h1
  all_goals
    (repeat' ((conv => whnf); first | refine CondVC.t ?_ | refine CondVC.f ?_ | refine CondVC.dec (fun h => ?_) (fun h => ?_) | refine CondVC.ndec (fun h => ?_) (fun h => ?_) | refine CondVC.mk (fun h => ?_) (fun h => ?_) | refine ArVC.i64 (by omega) ?_ | refine SideVC.mk (by first | omega | decide | (simp [slS]; done) | (simp [slS]; omega) | (simp only [byteE_len, mvE_len, strE_len, intE_len, esC_len, List.length_cons, List.length_nil, List.length_append, List.length_replicate, List.length_set, Int.toNat_natCast, and_true] at *; omega)) ?_ | refine LoopN.go ?_ | exact trivial | refine AltVC.mk ?_ ?_ | refine HeldVC.mk rfl ?_ | refine CallVC.pure h1 rfl ?_ | refine CallVC.pure h2 rfl ?_ | refine OpVC.more tt_ok ?_ | refine RestVC.ext tt_ok ?_)); all_goals (conv => whnf)
    all_goals exact RetVC.res rfl rfl
theorem halves_nat {w h : Int} (hq : halvesF w h = true) : ∃ m n : Nat, w = m ∧ h = n ∧ m ≤ 2 ∧ n ≤ 2 := by
  simp only [halvesF, Bool.and_eq_true, decide_eq_true_eq] at hq
  exact ⟨w.toNat, h.toNat, by omega, by omega, by omega, by omega⟩
def boardAskF (a b : UInt8) (w h : Int) : Tx := if halvesF w h then Lib.join (rowsF a b w.toNat h.toNat) [47] else []
theorem specFirstBoard_spec (w h : Int) : Spec Try.prog 30 [i64 w, i64 h] [] (isRes [.c (.str (boardAskF 84 70 w h)), vb (halvesF w h)] []) := by
  have h1 := boHalves_spec w h
  unfold boardAskF
  refine Spec.of_wpx tt_ok Try.func30 (by kernel_rfl) rfl ?_
  cases hq : halvesF w h with
  | true =>
    obtain ⟨m, n, rfl, rfl, hm, hn⟩ := halves_nat hq
    rw [hq] at h1
    have h2 := boFirst_spec m n hm hn 84 70
    have h3 := Spec.ren [(1000, 1001)] [(1001, 1000)] (boText_spec (rowsF 84 70 m n) (by rw [rowsF_len]; omega) (fun r hr => by
      obtain ⟨k, _, rfl⟩ := List.mem_map.1 hr
      rw [rowF_len]; omega)) rfl rfl rfl
    rw [if_pos rfl]
    simp only [Int.toNat_natCast]
    generalize Lib.join (rowsF 84 70 m n) [47] = j at *
    generalize rowsF 84 70 m n = rows at *
    (repeat' ((conv => whnf); first | refine CondVC.t ?_ | refine CondVC.f ?_ | refine CondVC.dec (fun h => ?_) (fun h => ?_) | refine CondVC.ndec (fun h => ?_) (fun h => ?_) | refine CondVC.mk (fun h => ?_) (fun h => ?_) | refine ArVC.i64 (by omega) ?_ | refine SideVC.mk (by first | omega | decide | (simp [slS]; done) | (simp [slS]; omega) | (simp only [byteE_len, mvE_len, strE_len, intE_len, esC_len, List.length_cons, List.length_nil, List.length_append, List.length_replicate, List.length_set, Int.toNat_natCast, and_true] at *; omega)) ?_ | refine LoopN.go ?_ | exact trivial | refine AltVC.mk ?_ ?_ | refine HeldVC.mk rfl ?_ | refine CallVC.pure h1 rfl ?_ | refine CallVC.res [] rfl h2 rfl ?_ | refine CallVC.res [1001] rfl h3 rfl ?_ | refine OpVC.more tt_ok ?_ | refine RestVC.ext tt_ok ?_)); all_goals (conv => whnf)
    all_goals exact RetVC.res rfl rfl
  | false =>
    rw [hq] at h1
    (repeat' ((conv => whnf); first | refine CondVC.t ?_ | refine CondVC.f ?_ | refine CondVC.dec (fun h => ?_) (fun h => ?_) | refine CondVC.ndec (fun h => ?_) (fun h => ?_) | refine CondVC.mk (fun h => ?_) (fun h => ?_) | refine ArVC.i64 (by omega) ?_ | refine SideVC.mk (by first | omega | decide | (simp [slS]; done) | (simp [slS]; omega) | (simp only [byteE_len, mvE_len, strE_len, intE_len, esC_len, List.length_cons, List.length_nil, List.length_append, List.length_replicate, List.length_set, Int.toNat_natCast, and_true] at *; omega)) ?_ | refine LoopN.go ?_ | exact trivial | refine AltVC.mk ?_ ?_ | refine HeldVC.mk rfl ?_ | refine CallVC.pure h1 rfl ?_ | refine OpVC.more tt_ok ?_ | refine RestVC.ext tt_ok ?_)); all_goals (conv => whnf)
    all_goals exact RetVC.res rfl rfl
theorem implFirstBoard_spec (w h : Int) : Spec Try.prog 31 [i64 w, i64 h] [] (isRes [.c (.str (boardAskF 84 70 w h)), vb (halvesF w h)] []) := by
  have h1 := areHalves_spec w h
  unfold boardAskF
  refine Spec.of_wpx tt_ok Try.func31 (by kernel_rfl) rfl ?_
  cases hq : halvesF w h with
  | true =>
    obtain ⟨m, n, rfl, rfl, hm, hn⟩ := halves_nat hq
    rw [hq] at h1
    have h2 := firstBoard1_spec m n hm hn
    have h3 := text_spec (rowsF 84 70 m n) (2 * m + 1) (by omega) (by omega) (by rw [rowsF_len]; omega) (fun r hr => by
      obtain ⟨k, _, rfl⟩ := List.mem_map.1 hr
      exact rowF_len _ _ _ _ _)
    rw [show ((2 * m + 1 : Nat) : Int) = 2 * (m : Int) + 1 by omega] at h3
    rw [if_pos rfl]
    simp only [Int.toNat_natCast]
    generalize Lib.join (rowsF 84 70 m n) [47] = j at *
    generalize (rowsF 84 70 m n).flatten = cells at *
    (repeat' ((conv => whnf); first | refine CondVC.t ?_ | refine CondVC.f ?_ | refine CondVC.dec (fun h => ?_) (fun h => ?_) | refine CondVC.ndec (fun h => ?_) (fun h => ?_) | refine CondVC.mk (fun h => ?_) (fun h => ?_) | refine ArVC.i64 (by omega) ?_ | refine SideVC.mk (by first | omega | decide | (simp [slS]; done) | (simp [slS]; omega) | (simp only [byteE_len, mvE_len, strE_len, intE_len, esC_len, List.length_cons, List.length_nil, List.length_append, List.length_replicate, List.length_set, Int.toNat_natCast, and_true] at *; omega)) ?_ | refine LoopN.go ?_ | exact trivial | refine AltVC.mk ?_ ?_ | refine HeldVC.mk rfl ?_ | refine CallVC.pure h1 rfl ?_ | refine CallVC.pure h2 rfl ?_ | refine CallVC.pure h3 rfl ?_ | refine OpVC.more tt_ok ?_ | refine RestVC.ext tt_ok ?_)); all_goals (conv => whnf)
    all_goals exact RetVC.res rfl rfl
  | false =>
    rw [hq] at h1
    (repeat' ((conv => whnf); first | refine CondVC.t ?_ | refine CondVC.f ?_ | refine CondVC.dec (fun h => ?_) (fun h => ?_) | refine CondVC.ndec (fun h => ?_) (fun h => ?_) | refine CondVC.mk (fun h => ?_) (fun h => ?_) | refine ArVC.i64 (by omega) ?_ | refine SideVC.mk (by first | omega | decide | (simp [slS]; done) | (simp [slS]; omega) | (simp only [byteE_len, mvE_len, strE_len, intE_len, esC_len, List.length_cons, List.length_nil, List.length_append, List.length_replicate, List.length_set, Int.toNat_natCast, and_true] at *; omega)) ?_ | refine LoopN.go ?_ | exact trivial | refine AltVC.mk ?_ ?_ | refine HeldVC.mk rfl ?_ | refine CallVC.pure h1 rfl ?_ | refine OpVC.more tt_ok ?_ | refine RestVC.ext tt_ok ?_)); all_goals (conv => whnf)
    all_goals exact RetVC.res rfl rfl
theorem lawFirstBoard_spec (w h : Int) : Spec Try.prog 9 [i64 w, i64 h] [] (isRes [vb true] []) := by
  have h1 := specFirstBoard_spec w h
  have h2 := implFirstBoard_spec w h
  generalize boardAskF 84 70 w h = a at *
  generalize halvesF w h = b at *
  refine Spec.of_wpx tt_ok Try.func9 (by kernel_rfl) rfl ?_
  (repeat' ((conv => whnf); first | refine CondVC.t ?_ | refine CondVC.f ?_ | refine CondVC.dec (fun h => ?_) (fun h => ?_) | refine CondVC.ndec (fun h => ?_) (fun h => ?_) | refine CondVC.mk (fun h => ?_) (fun h => ?_) | refine ArVC.i64 (by omega) ?_ | refine SideVC.mk (by first | omega | decide | (simp [slS]; done) | (simp [slS]; omega) | (simp only [byteE_len, mvE_len, strE_len, intE_len, esC_len, List.length_cons, List.length_nil, List.length_append, List.length_replicate, List.length_set, Int.toNat_natCast, and_true] at *; omega)) ?_ | refine LoopN.go ?_ | exact trivial | refine AltVC.mk ?_ ?_ | refine HeldVC.mk rfl ?_ | refine CallVC.pure h1 rfl ?_ | refine CallVC.pure h2 rfl ?_ | refine OpVC.more tt_ok ?_ | refine RestVC.ext tt_ok ?_)); all_goals (conv => whnf)
  all_goals first | exact RetVC.res rfl rfl | (exfalso; simp_all; done)

/-! ### Last boards -/
theorem board_len (a b : UInt8) (w h : Int) : (boardAskF a b w h).length ≤ 1000000 := by
  unfold boardAskF
  by_cases hq : halvesF w h = true
  · obtain ⟨m, n, rfl, rfl, hm, hn⟩ := halves_nat hq
    rw [if_pos hq]
    simp only [Int.toNat_natCast]
    have hjl : ∀ (rows : List Tx) k, (∀ r ∈ rows, r.length ≤ 10) → k ≤ rows.length → (Lib.join (rows.take k) [47]).length ≤ 2000 * k := by
      intro rows k hr
      induction k with
      | zero => intro _; simp [Lib.join_nil]
      | succ k ih =>
        intro hk
        rw [join_step (by omega)]
        have := ih (by omega)
        have := hr _ (List.getElem_mem (show k < rows.length by omega))
        split
        · omega
        · simp; omega
    have := hjl (rowsF a b m n) (rowsF a b m n).length (fun r hr => by
      obtain ⟨k, _, rfl⟩ := List.mem_map.1 hr
      rw [rowF_len]; omega) (Nat.le_refl _)
    rw [List.take_length, rowsF_len] at this
    omega
  · rw [if_neg hq]; simp
theorem board_other (w h : Int) : (boardAskF 84 70 w h).map otherF = boardAskF 70 84 w h := by
  unfold boardAskF
  by_cases hq : halvesF w h = true
  · rw [if_pos hq, if_pos hq, join_map, rowsF_other]; rfl
  · rw [if_neg hq, if_neg hq]; rfl
end Go.Proofs.Ytglikiknonmogaa.X
