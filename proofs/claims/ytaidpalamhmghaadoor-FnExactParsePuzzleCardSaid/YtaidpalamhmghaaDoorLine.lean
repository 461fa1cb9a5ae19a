/- Lines: contracts of the program's and of the reference's functions. No condition beyond each statement's. -/
import Derived.Test.YtaidpalamhmghaaDoorLib
import Derived.Test.YtaidpalamhmghaaDoorLineF
namespace Go.Proofs.YtaidpalamhmghaaDoor.X
open Go.Proofs
set_option maxRecDepth 100000
set_option linter.unusedVariables false
set_option linter.unusedSimpArgs false

theorem u8_84 (b : UInt8) : (((b.toNat : Nat) : Int) = 84) ↔ b = 84 := by
  constructor
  · intro h; apply UInt8.toNat_inj.1; show b.toNat = 84; omega
  · rintro rfl; rfl
theorem u8_70 (b : UInt8) : (((b.toNat : Nat) : Int) = 70) ↔ b = 70 := by
  constructor
  · intro h; apply UInt8.toNat_inj.1; show b.toNat = 70; omega
  · rintro rfl; rfl
theorem u8_46 (b : UInt8) : (((b.toNat : Nat) : Int) = 46) ↔ b = 46 := by
  constructor
  · intro h; apply UInt8.toNat_inj.1; show b.toNat = 46; omega
  · rintro rfl; rfl
theorem u8_inj (b c : UInt8) : (((b.toNat : Nat) : Int) = ((c.toNat : Nat) : Int)) ↔ b = c := by
  constructor
  · intro h; apply UInt8.toNat_inj.1; omega
  · rintro rfl; rfl

theorem all_of_getD {w : Tx} {p : UInt8 → Bool} (h : ∀ j, j < w.length → p (w.getD j 0) = true) : w.all p = true := by
  rw [List.all_eq_true]
  intro b hb
  obtain ⟨j, hj, rfl⟩ := List.getElem_of_mem hb
  have := h j hj
  rwa [List.getD_eq_getElem?_getD, List.getElem?_eq_getElem hj, Option.getD_some] at this
theorem all_false_getD {w : Tx} {p : UInt8 → Bool} {j : Nat} (hj : j < w.length) (h : p (w.getD j 0) = false) : w.all p = false := by
  rw [List.all_eq_false]
  rw [List.getD_eq_getElem?_getD, List.getElem?_eq_getElem hj, Option.getD_some] at h
  exact ⟨w[j], List.getElem_mem hj, by simp [h]⟩

theorem fsucc {P : Nat → Prop} {k : Nat} (h : ∀ j, j < k → P j) (hk : P k) : ∀ j, j < k + 1 → P j := fun j hj => by
  by_cases e : j = k
  · exact e ▸ hk
  · exact h j (by omega)

theorem liGood_spec (w : Tx) (hw : w.length ≤ 1099511627776) : Spec Tryd.prog 86 [.c (.str w)] [] (isRes [vb (lineOf w 12)] []) := by
  refine Spec.of_wpx tt_ok Tryd.func86 (by kernel_rfl) rfl ?_
  (repeat' ((conv => whnf); first | refine CondVC.t ?_ | refine CondVC.f ?_ | refine CondVC.dec (fun h => ?_) (fun h => ?_) | refine CondVC.ndec (fun h => ?_) (fun h => ?_) | refine CondVC.mk (fun h => ?_) (fun h => ?_) | refine ArVC.i64 (by first | omega | (simp only; omega)) ?_ | refine SideVC.mk (by first | omega | decide | (simp only; omega) | (simp [slS]; done) | (simp [slS]; omega) | (simp only [byteE_len, mvE_len, strE_len, intE_len, esC_len, List.length_cons, List.length_nil, List.length_append, List.length_replicate, List.length_set, Int.toNat_natCast, and_true] at *; omega)) ?_ | refine LoopN.go ?_ | exact trivial | refine AltVC.mk ?_ ?_ | refine HeldVC.mk rfl ?_ | refine CallVC.pure (l1In_spec _ _ _) rfl ?_ | refine OpVC.more tt_ok ?_ | refine RestVC.ext tt_ok ?_)); all_goals (conv => whnf)
  · exact RetVC.res (by simp only [vb, lineOf]; rw [decide_eq_false (by omega)]; rfl) rfl
  · refine LoopVC.mk (G := Nat) (fun k => ⟨[(3, .v (i64 k)), (0, .v (.c (.str w)))], []⟩) (fun k => k ≤ w.length ∧ ∀ j, j < k → okCh (w.getD j 0) = true) (fun k => w.length - k) 0 ⟨by omega, fun j hj => by omega⟩ (Sub.mk [] [] ⟨rfl, rfl, trivial⟩ rfl rfl) ?_
    intro k ⟨hk, hn⟩
    (repeat' ((conv => whnf); first | refine CondVC.t ?_ | refine CondVC.f ?_ | refine CondVC.dec (fun h => ?_) (fun h => ?_) | refine CondVC.ndec (fun h => ?_) (fun h => ?_) | refine CondVC.mk (fun h => ?_) (fun h => ?_) | refine ArVC.i64 (by first | omega | (simp only; omega)) ?_ | refine SideVC.mk (by first | omega | decide | (simp only; omega) | (simp [slS]; done) | (simp [slS]; omega) | (simp only [byteE_len, mvE_len, strE_len, intE_len, esC_len, List.length_cons, List.length_nil, List.length_append, List.length_replicate, List.length_set, Int.toNat_natCast, and_true] at *; omega)) ?_ | refine LoopN.go ?_ | exact trivial | refine AltVC.mk ?_ ?_ | refine HeldVC.mk rfl ?_ | refine OpVC.more tt_ok ?_ | refine RestVC.ext tt_ok ?_)); all_goals (conv => whnf)
    all_goals simp only [Int.toNat_natCast, u8_84, u8_70, u8_46, Classical.not_not] at *
    all_goals first
      | exact RetVC.res (by simp only [vb, lineOf]; rw [all_false_getD (j := k) (by omega) (by simp [-List.getD_eq_getElem?_getD, okCh, *])]; simp) rfl
      | exact ⟨k + 1, ⟨by omega, fsucc hn (by simp [-List.getD_eq_getElem?_getD, okCh, *])⟩, by omega, Sub.mk [] [] ⟨rfl, rfl, trivial⟩ rfl rfl⟩
      | exact RetVC.res (by simp only [vb, lineOf]; rw [all_of_getD fun j hj => hn j (by omega), decide_eq_true (by omega)]; rfl) rfl

theorem dropWhile_nil {p : UInt8 → Bool} : ∀ {l : Tx}, l.dropWhile p = [] ↔ ∀ b ∈ l, p b = true
  | [] => by simp
  | b :: l => by
    cases h : p b with
    | true => simp [List.dropWhile_cons, h, dropWhile_nil (l := l)]
    | false => simp [List.dropWhile_cons, h]

theorem trimS_nil (w cs : Tx) : Lib.trimS w cs = [] ↔ ∀ b ∈ w, b ∈ cs := by
  -- (where there is 132)
  unfold Lib.trimS Lib.trimLeftS Lib.trimRightS
  rw [dropWhile_nil]
  constructor
  · intro h
    have h2 : ∀ b ∈ w.reverse.dropWhile (cs.contains ·), b ∈ cs := fun b hb => by simpa using h b (by simpa using hb)
    have h3 : w.reverse.dropWhile (cs.contains ·) = [] := by
      cases hd : w.reverse.dropWhile (cs.contains ·) with
      | nil => rfl
      | cons x l =>
        have := List.head?_dropWhile_not (cs.contains ·) w.reverse
        rw [hd] at this h2
        simp at this
        exact absurd (h2 x (by simp)) this
    rw [dropWhile_nil] at h3
    intro b hb
    simpa using h3 b (by simpa using hb)
  · intro h b hb
    have : b ∈ w := by
      have := (List.dropWhile_sublist (cs.contains ·)).subset (List.mem_reverse.1 hb)
      simpa using this
    simpa using h b this

theorem trim_line (w : Tx) : decide (Lib.trimS w [46, 70, 84] = []) = w.all okCh := by
  -- (where there is 132)
  rw [Bool.eq_iff_iff, decide_eq_true_eq, trimS_nil, List.all_eq_true]
  simp only [okCh, List.mem_cons, List.not_mem_nil, or_false, Bool.or_eq_true, decide_eq_true_eq]
  constructor
  · intro h b hb; rcases h b hb with h | h | h <;> simp [h]
  · intro h b hb; rcases h b hb with h | h | h <;> simp [h]

theorem isLineOf_spec (w : Tx) (most : Int) (hw : w.length ≤ 1099511627776) : Spec Tryd.prog 95 [.c (.str w), i64 most] [] (isRes [vb (lineOf w most)] []) := by
  refine Spec.of_wpx tt_ok Tryd.func95 (by kernel_rfl) rfl ?_
  (repeat' ((conv => whnf); first | refine CondVC.t ?_ | refine CondVC.f ?_ | refine CondVC.dec (fun h => ?_) (fun h => ?_) | refine CondVC.ndec (fun h => ?_) (fun h => ?_) | refine CondVC.mk (fun h => ?_) (fun h => ?_) | refine ArVC.i64 (by first | omega | (simp only; omega)) ?_ | refine SideVC.mk (by first | omega | decide | (simp only; omega) | (simp [slS]; done) | (simp [slS]; omega) | (simp only [byteE_len, mvE_len, strE_len, intE_len, esC_len, List.length_cons, List.length_nil, List.length_append, List.length_replicate, List.length_set, Int.toNat_natCast, and_true] at *; omega)) ?_ | refine LoopN.go ?_ | exact trivial | refine AltVC.mk ?_ ?_ | refine HeldVC.mk rfl ?_ | refine CallVC.pure (within_spec _ _ _) rfl ?_ | refine CallVC.pure (trim_spec w hw) rfl ?_ | refine OpVC.more tt_ok ?_ | refine RestVC.ext tt_ok ?_)); all_goals (conv => whnf)
  all_goals first
    | exact RetVC.res (by simp only [vb, lineOf]; rw [decide_eq_false (by assumption)]; rfl) rfl
    | exact RetVC.res (by simp only [vb, lineOf]; rw [decide_eq_true (p := 1 ≤ (w.length : Int) ∧ (w.length : Int) ≤ most) (by assumption), trim_line]; rfl) rfl

theorem isLine_spec (w : Tx) (hw : w.length ≤ 1099511627776) : Spec Tryd.prog 46 [.c (.str w)] [] (isRes [vb (lineOf w 12)] []) := by
  refine Spec.of_wpx tt_ok Tryd.func46 (by kernel_rfl) rfl ?_
  (repeat' ((conv => whnf); first | refine CondVC.t ?_ | refine CondVC.f ?_ | refine CondVC.dec (fun h => ?_) (fun h => ?_) | refine CondVC.ndec (fun h => ?_) (fun h => ?_) | refine CondVC.mk (fun h => ?_) (fun h => ?_) | refine ArVC.i64 (by first | omega | (simp only; omega)) ?_ | refine SideVC.mk (by first | omega | decide | (simp only; omega) | (simp [slS]; done) | (simp [slS]; omega) | (simp only [byteE_len, mvE_len, strE_len, intE_len, esC_len, List.length_cons, List.length_nil, List.length_append, List.length_replicate, List.length_set, Int.toNat_natCast, and_true] at *; omega)) ?_ | refine LoopN.go ?_ | exact trivial | refine AltVC.mk ?_ ?_ | refine HeldVC.mk rfl ?_ | refine CallVC.pure (isLineOf_spec w 12 hw) rfl ?_ | refine OpVC.more tt_ok ?_ | refine RestVC.ext tt_ok ?_)); all_goals (conv => whnf)
  all_goals exact RetVC.res rfl rfl

theorem other_spec (b : UInt8) : Spec Tryd.prog 131 [.c (.int .u8 (b.toNat : Nat))] [] (isRes [.c (.int .u8 ((otherF b).toNat : Nat))] []) := by
  refine Spec.of_wpx tt_ok Tryd.func131 (by kernel_rfl) rfl ?_
  (repeat' ((conv => whnf); first | refine CondVC.t ?_ | refine CondVC.f ?_ | refine CondVC.dec (fun h => ?_) (fun h => ?_) | refine CondVC.ndec (fun h => ?_) (fun h => ?_) | refine CondVC.mk (fun h => ?_) (fun h => ?_) | refine ArVC.i64 (by first | omega | (simp only; omega)) ?_ | refine SideVC.mk (by first | omega | decide | (simp only; omega) | (simp [slS]; done) | (simp [slS]; omega) | (simp only [byteE_len, mvE_len, strE_len, intE_len, esC_len, List.length_cons, List.length_nil, List.length_append, List.length_replicate, List.length_set, Int.toNat_natCast, and_true] at *; omega)) ?_ | refine LoopN.go ?_ | exact trivial | refine AltVC.mk ?_ ?_ | refine HeldVC.mk rfl ?_ | refine OpVC.more tt_ok ?_ | refine RestVC.ext tt_ok ?_)); all_goals (conv => whnf)
  all_goals simp only [u8_84, u8_70] at *
  all_goals exact RetVC.res (by simp [otherF, *]) rfl

theorem stepOf_spec (b : UInt8) : Spec Tryd.prog 115 [.c (.int .u8 (b.toNat : Nat))] [] (isRes [i64 (stepF b)] []) := by
  refine Spec.of_wpx tt_ok Tryd.func115 (by kernel_rfl) rfl ?_
  (repeat' ((conv => whnf); first | refine CondVC.t ?_ | refine CondVC.f ?_ | refine CondVC.dec (fun h => ?_) (fun h => ?_) | refine CondVC.ndec (fun h => ?_) (fun h => ?_) | refine CondVC.mk (fun h => ?_) (fun h => ?_) | refine ArVC.i64 (by first | omega | (simp only; omega)) ?_ | refine SideVC.mk (by first | omega | decide | (simp only; omega) | (simp [slS]; done) | (simp [slS]; omega) | (simp only [byteE_len, mvE_len, strE_len, intE_len, esC_len, List.length_cons, List.length_nil, List.length_append, List.length_replicate, List.length_set, Int.toNat_natCast, and_true] at *; omega)) ?_ | refine LoopN.go ?_ | exact trivial | refine AltVC.mk ?_ ?_ | refine HeldVC.mk rfl ?_ | refine OpVC.more tt_ok ?_ | refine RestVC.ext tt_ok ?_)); all_goals (conv => whnf)
  all_goals simp only [u8_84, u8_70] at *
  all_goals exact RetVC.res (by simp [stepF, i64, *]) rfl

theorem at_spec (w : Tx) (i : Int) : Spec Tryd.prog 151 [.c (.str w), i64 i] [] (isRes [.c (.int .u8 ((atF w i).toNat : Nat))] []) := by
  refine Spec.of_wpx tt_ok Tryd.func151 (by kernel_rfl) rfl ?_
  (repeat' ((conv => whnf); first | refine CondVC.t ?_ | refine CondVC.f ?_ | refine CondVC.dec (fun h => ?_) (fun h => ?_) | refine CondVC.ndec (fun h => ?_) (fun h => ?_) | refine CondVC.mk (fun h => ?_) (fun h => ?_) | refine ArVC.i64 (by first | omega | (simp only; omega)) ?_ | refine SideVC.mk (by first | omega | decide | (simp only; omega) | (simp [slS]; done) | (simp [slS]; omega) | (simp only [byteE_len, mvE_len, strE_len, intE_len, esC_len, List.length_cons, List.length_nil, List.length_append, List.length_replicate, List.length_set, Int.toNat_natCast, and_true] at *; omega)) ?_ | refine LoopN.go ?_ | exact trivial | refine AltVC.mk ?_ ?_ | refine HeldVC.mk rfl ?_ | refine OpVC.more tt_ok ?_ | refine RestVC.ext tt_ok ?_)); all_goals (conv => whnf)
  all_goals first
    | exact RetVC.res (by rw [atF_out (by omega)]; rfl) rfl
    | exact RetVC.res (by rw [atF_in (by omega)]) rfl

def goalV (w : Tx) (i : Int) : List V := match goalF w i with
  | some t => [i64 t, vb true]
  | none => [i64 0, vb false]

theorem stepF_cases (b : UInt8) : stepF b = 0 ∨ stepF b = 1 ∨ stepF b = -1 := by
  unfold stepF
  split
  · simp
  · split <;> simp

theorem goal_spec (w : Tx) (i : Nat) (hi : i < w.length) (hw : w.length ≤ 1099511627776) : Spec Tryd.prog 133 [.c (.str w), i64 i] [] (isRes (goalV w i) []) := by
  have hs := stepF_cases (w.getD i 0)
  refine Spec.of_wpx tt_ok Tryd.func133 (by kernel_rfl) rfl ?_
  (repeat' ((conv => whnf); first | refine CondVC.t ?_ | refine CondVC.f ?_ | refine CondVC.dec (fun h => ?_) (fun h => ?_) | refine CondVC.ndec (fun h => ?_) (fun h => ?_) | refine CondVC.mk (fun h => ?_) (fun h => ?_) | refine ArVC.i64 (by first | omega | (simp only; omega)) ?_ | refine SideVC.mk (by first | omega | decide | (simp only; omega) | (simp [slS]; done) | (simp [slS]; omega) | (simp only [byteE_len, mvE_len, strE_len, intE_len, esC_len, List.length_cons, List.length_nil, List.length_append, List.length_replicate, List.length_set, Int.toNat_natCast, and_true] at *; omega)) ?_ | refine LoopN.go ?_ | exact trivial | refine AltVC.mk ?_ ?_ | refine HeldVC.mk rfl ?_ | refine CallVC.pure (stepOf_spec _) rfl ?_ | refine CallVC.pure (at_spec _ _) rfl ?_ | refine CallVC.pure (other_spec _) rfl ?_ | refine DrawVC.quiet tt_ok (by kernel_rfl) (by kernel_rfl) ?_ | refine QCallVC.pure (at_spec _ _) rfl ?_ | refine QCallVC.pure (other_spec _) rfl ?_ | refine ArVC.i64 (by simp only [Int.toNat_natCast] at *; omega) ?_ | refine OpVC.more tt_ok ?_ | refine RestVC.ext tt_ok ?_)); all_goals (conv => whnf)
  all_goals simp only [Int.toNat_natCast, u8_46, u8_inj] at *
  all_goals exact RetVC.res (by unfold goalV goalF; simp only [Int.toNat_natCast]; (repeat (first | rw [if_pos (by assumption)] | rw [if_neg (by assumption)] | rw [if_pos ⟨by assumption, by assumption⟩] | rw [if_neg (fun hh => absurd hh.1 (by assumption))] | rw [if_neg (fun hh => absurd hh.2 (by assumption))])); rfl) rfl

/-! ### The moves of a line -/
def movesTo (w kinds : Tx) (k : Nat) : List Mv := (List.range k).filterMap (moveAt w kinds)
theorem movesTo_succ (w kinds : Tx) (k : Nat) : movesTo w kinds (k + 1) = movesTo w kinds k ++ (moveAt w kinds k).toList := by
  unfold movesTo
  rw [List.range_succ, List.filterMap_append]
  cases h : moveAt w kinds k <;> simp [h]
theorem movesTo_len (w kinds : Tx) (k : Nat) : (movesTo w kinds k).length ≤ k := by
  have := List.length_filterMap_le (moveAt w kinds) (List.range k)
  simpa [movesTo] using this

theorem slS_one {w : Tx} {k : Nat} (h : k < w.length) : slS w k (k + 1) = [w.getD k 0] := by
  unfold slS
  rw [List.getD_eq_getElem?_getD, List.getElem?_eq_getElem h, Option.getD_some, List.take_succ_eq_append_getElem h, List.drop_append_of_le_length (by simp; omega)]
  simp

theorem moves_spec (w kinds : Tx) (hw : w.length ≤ 1000000) : Spec Tryd.prog 117 [.c (.str w), .c (.str kinds)] [] (isRes [.c (.sl 1001)] [(1001, .sl 33 2 (mvE (movesF w kinds)))]) := by
  refine Spec.of_wpx tt_ok Tryd.func117 (by kernel_rfl) rfl ?_
  (repeat' ((conv => whnf); first | refine CondVC.t ?_ | refine CondVC.f ?_ | refine CondVC.dec (fun h => ?_) (fun h => ?_) | refine CondVC.ndec (fun h => ?_) (fun h => ?_) | refine CondVC.mk (fun h => ?_) (fun h => ?_) | refine ArVC.i64 (by first | omega | (simp only; omega)) ?_ | refine SideVC.mk (by first | omega | decide | (simp only; omega) | (simp [slS]; done) | (simp [slS]; omega) | (simp only [byteE_len, mvE_len, strE_len, intE_len, esC_len, List.length_cons, List.length_nil, List.length_append, List.length_replicate, List.length_set, Int.toNat_natCast, and_true] at *; omega)) ?_ | refine LoopN.go ?_ | exact trivial | refine AltVC.mk ?_ ?_ | refine HeldVC.mk rfl ?_ | refine OpVC.more tt_ok ?_ | refine RestVC.ext tt_ok ?_)); all_goals (conv => whnf)
  refine LoopVC.mk (G := Nat) (fun k => ⟨[(12, .v (i64 k)), (11, .v (i64 w.length)), (10, .v (.c (.str w))), (5, .v (.c (.sl 1001))), (1, .v (.c (.str kinds))), (0, .v (.c (.str w)))], [(1001, .sl 33 2 (mvE (movesTo w kinds k)))]⟩)
    (fun k => k ≤ w.length) (fun k => w.length - k) 0 (by omega) (Sub.mk [(1001, 9)] [] ⟨rfl, rfl, rfl, rfl, rfl, rfl, trivial⟩ rfl rfl) ?_
  intro k hk
  have hl := movesTo_len w kinds k
  have hs := movesTo_succ w kinds k
  by_cases hk' : k = w.length
  · (repeat' ((conv => whnf); first | refine CondVC.t ?_ | refine CondVC.f ?_ | refine CondVC.dec (fun h => ?_) (fun h => ?_) | refine CondVC.ndec (fun h => ?_) (fun h => ?_) | refine CondVC.mk (fun h => ?_) (fun h => ?_) | refine ArVC.i64 (by first | omega | (simp only; omega)) ?_ | refine SideVC.mk (by first | omega | decide | (simp only; omega) | (simp [slS]; done) | (simp [slS]; omega) | (simp only [byteE_len, mvE_len, strE_len, intE_len, esC_len, List.length_cons, List.length_nil, List.length_append, List.length_replicate, List.length_set, Int.toNat_natCast, and_true] at *; omega)) ?_ | refine LoopN.go ?_ | exact trivial | refine AltVC.mk ?_ ?_ | refine HeldVC.mk rfl ?_ | refine OpVC.more tt_ok ?_ | refine RestVC.ext tt_ok ?_)); all_goals (conv => whnf)
    · omega
    · exact RetVC.res rfl (by rw [hk']; rfl)
  have hgs := goal_spec w k (by omega) (by omega)
  have hcs := contains_spec1 kinds (w.getD k 0)
  unfold goalV at hgs
  unfold moveAt at hs
  cases hg : goalF w k with
  | none =>
    rw [hg] at hs hgs
    simp only [Option.toList_none, List.append_nil] at hs
    (repeat' ((conv => whnf); first | refine CondVC.t ?_ | refine CondVC.f ?_ | refine CondVC.dec (fun h => ?_) (fun h => ?_) | refine CondVC.ndec (fun h => ?_) (fun h => ?_) | refine CondVC.mk (fun h => ?_) (fun h => ?_) | refine ArVC.i64 (by first | omega | (simp only; omega)) ?_ | refine SideVC.mk (by first | omega | decide | (simp only; omega) | (simp [slS]; done) | (simp [slS]; omega) | (simp only [byteE_len, mvE_len, strE_len, intE_len, esC_len, List.length_cons, List.length_nil, List.length_append, List.length_replicate, List.length_set, Int.toNat_natCast, and_true] at *; omega)) ?_ | refine LoopN.go ?_ | exact trivial | refine AltVC.mk ?_ ?_ | refine HeldVC.mk rfl ?_ | refine CallVC.pure hgs rfl ?_ | refine OpVC.more tt_ok ?_ | refine RestVC.ext tt_ok ?_)); all_goals (conv => whnf)
    · exact ⟨k + 1, by omega, by omega, Sub.mk [] [] ⟨rfl, rfl, rfl, rfl, rfl, rfl, trivial⟩ (by rw [hs]; rfl) rfl⟩
    · omega
  | some t =>
    rw [hg] at hs hgs
    have hsl : slS w (k : Int).toNat ((k : Int) + 1).toNat = [w.getD k 0] := by rw [show ((k : Int) + 1).toNat = k + 1 by omega, Int.toNat_natCast]; exact slS_one (by omega)
    rw [← hsl] at hcs
    (repeat' ((conv => whnf); first | refine CondVC.t ?_ | refine CondVC.f ?_ | refine CondVC.dec (fun h => ?_) (fun h => ?_) | refine CondVC.ndec (fun h => ?_) (fun h => ?_) | refine CondVC.mk (fun h => ?_) (fun h => ?_) | refine ArVC.i64 (by first | omega | (simp only; omega)) ?_ | refine SideVC.mk (by first | omega | decide | (simp only; omega) | (simp [slS]; done) | (simp [slS]; omega) | (simp only [byteE_len, mvE_len, strE_len, intE_len, esC_len, List.length_cons, List.length_nil, List.length_append, List.length_replicate, List.length_set, Int.toNat_natCast, and_true] at *; omega)) ?_ | refine LoopN.go ?_ | exact trivial | refine AltVC.mk ?_ ?_ | refine HeldVC.mk rfl ?_ | refine CallVC.pure hgs rfl ?_ | refine CallVC.pure hcs rfl ?_ | refine OpVC.more tt_ok ?_ | refine RestVC.ext tt_ok ?_)); all_goals (conv => whnf)
    · have e : mvE (movesTo w kinds (k + 1)) = mvE (movesTo w kinds k) ++ [mvC ((k : Int), t)] := by rw [hs, mvE_append]; simp only [h, if_true]; rfl
      exact ⟨k + 1, by omega, by omega, Sub.mk [(1001, 36)] _ ⟨rfl, rfl, rfl, rfl, rfl, rfl, trivial⟩ (by rw [e]; rfl) rfl⟩
    · have e : mvE (movesTo w kinds (k + 1)) = mvE (movesTo w kinds k) := by rw [hs, mvE_append]; simp only [h, Bool.false_eq_true, if_false, Option.toList_none]; simp [mvE]
      exact ⟨k + 1, by omega, by omega, Sub.mk [] _ ⟨rfl, rfl, rfl, rfl, rfl, rfl, trivial⟩ (by rw [e]; rfl) rfl⟩
    · omega

theorem ascii_getD {w : Tx} (hok : w.all okCh = true) {k : Nat} (hk : k < w.length) : (w.getD k 0).toNat < 128 := by
  have := all_getD hok hk
  simp only [okCh, Bool.or_eq_true, decide_eq_true_eq] at this
  rcases this with h | h | h <;> rw [h] <;> decide

theorem liCan_spec (w : Tx) (m : Mv) (hw : w.length ≤ 1000000) : Spec Tryd.prog 98 [.c (.str w), .agg (mvC m)] [] (isRes [vb (canF w m)] []) := by
  obtain ⟨a, b⟩ := m
  have e1 : a + 2 * 1 = a + 2 := by omega
  have e2 : a + -1 = a - 1 := by omega
  have e3 : a + 2 * -1 = a - 2 := by omega
  refine Spec.of_wpx tt_ok Tryd.func98 (by kernel_rfl) rfl ?_
  (repeat' ((conv => whnf); first | refine CondVC.t ?_ | refine CondVC.f ?_ | refine CondVC.dec (fun h => ?_) (fun h => ?_) | refine CondVC.ndec (fun h => ?_) (fun h => ?_) | refine CondVC.mk (fun h => ?_) (fun h => ?_) | refine ArVC.i64 (by first | omega | (simp only; omega)) ?_ | refine SideVC.mk (by first | omega | decide | (simp only; omega) | (simp [slS]; done) | (simp [slS]; omega) | (simp only [byteE_len, mvE_len, strE_len, intE_len, esC_len, List.length_cons, List.length_nil, List.length_append, List.length_replicate, List.length_set, Int.toNat_natCast, and_true] at *; omega)) ?_ | refine LoopN.go ?_ | exact trivial | refine AltVC.mk ?_ ?_ | refine HeldVC.mk rfl ?_ | refine CallVC.pure (l1In_spec _ _ _) rfl ?_ | refine OpVC.more tt_ok ?_ | refine RestVC.ext tt_ok ?_)); all_goals (conv => whnf)
  all_goals simp only [u8_84, u8_70, u8_46, Classical.not_not, e1, e2, e3] at *
  all_goals refine RetVC.res ?_ rfl
  all_goals simp only [vb, canF]
  all_goals first
    | (rw [decide_eq_false (p := 0 ≤ a ∧ a ≤ (w.length : Int) - 1) (by assumption)]; rfl)
    | (rw [decide_eq_true (p := 0 ≤ a ∧ a ≤ (w.length : Int) - 1) (by assumption), decide_eq_false (p := 0 ≤ b ∧ b ≤ (w.length : Int) - 1) (by assumption)]; rfl)
    | (simp_all [-List.getD_eq_getElem?_getD]; done)

def liTo (w : Tx) (toads frogs : Bool) (k : Nat) : List Mv := (List.range k).flatMap (liAtF w toads frogs)
theorem liTo_succ (w : Tx) (toads frogs : Bool) (k : Nat) : liTo w toads frogs (k + 1) = liTo w toads frogs k ++ liAtF w toads frogs k := by
  unfold liTo
  rw [List.range_succ, List.flatMap_append]
  simp
theorem liAtF_len (w : Tx) (toads frogs : Bool) (k : Nat) : (liAtF w toads frogs k).length ≤ 5 := by
  unfold liAtF
  split
  · simp
  · exact List.length_filter_le _ _
theorem liTo_len (w : Tx) (toads frogs : Bool) (k : Nat) : (liTo w toads frogs k).length ≤ 5 * k := by
  induction k with
  | zero => simp [liTo]
  | succ k ih => rw [liTo_succ, List.length_append]; have := liAtF_len w toads frogs k; omega
/-- The first j of the five. -/
def fiveTo (w : Tx) (k j : Nat) : List Mv := ((five k).take j).filter (canF w)
theorem fiveTo_succ (w : Tx) (k j : Nat) (hj : j < 5) : fiveTo w k (j + 1) = fiveTo w k j ++ (if canF w ((k : Int), (k : Int) - 2 + j) then [((k : Int), (k : Int) - 2 + j)] else []) := by
  unfold fiveTo
  have h5 : (five k)[j]'(by simpa [five] using hj) = ((k : Int), (k : Int) - 2 + j) := by
    match j, hj with
    | 0, _ => simp [five]
    | 1, _ => simp [five]; omega
    | 2, _ => simp [five]
    | 3, _ => simp [five]; omega
    | 4, _ => simp [five]; omega
  rw [List.take_succ_eq_append_getElem (by simpa [five] using hj), List.filter_append, h5]
  congr 1
  by_cases h : canF w ((k : Int), (k : Int) - 2 + j) = true <;> simp [h]
theorem fiveTo_len (w : Tx) (k j : Nat) : (fiveTo w k j).length ≤ 5 := by
  unfold fiveTo
  refine Nat.le_trans (List.length_filter_le _ _) ?_
  simp [five]; omega

theorem liMoves_spec (w : Tx) (toads frogs : Bool) (hok : w.all okCh = true) (hw : w.length ≤ 1000000) : Spec Tryd.prog 87 [.c (.str w), vb toads, vb frogs] [] (isRes [.c (.sl 1001)] [(1001, .sl 33 2 (mvE (liMovesF w toads frogs)))]) := by
  refine Spec.of_wpx tt_ok Tryd.func87 (by kernel_rfl) rfl ?_
  (repeat' ((conv => whnf); first | refine CondVC.t ?_ | refine CondVC.f ?_ | refine CondVC.dec (fun h => ?_) (fun h => ?_) | refine CondVC.ndec (fun h => ?_) (fun h => ?_) | refine CondVC.mk (fun h => ?_) (fun h => ?_) | refine ArVC.i64 (by first | omega | (simp only; omega)) ?_ | refine SideVC.mk (by first | omega | decide | (simp only; omega) | (simp [slS]; done) | (simp [slS]; omega) | (simp only [byteE_len, mvE_len, strE_len, intE_len, esC_len, List.length_cons, List.length_nil, List.length_append, List.length_replicate, List.length_set, Int.toNat_natCast, and_true] at *; omega)) ?_ | refine LoopN.go ?_ | exact trivial | refine AltVC.mk ?_ ?_ | refine HeldVC.mk rfl ?_ | refine OpVC.more tt_ok ?_ | refine RestVC.ext tt_ok ?_)); all_goals (conv => whnf)
  refine LoopVC.mk (G := Nat) (fun k => ⟨[(12, .v (.c (.ptr 12 0))), (7, .v (.c (.sl 1001))), (2, .v (vb frogs)), (1, .v (vb toads)), (0, .v (.c (.str w)))], [(1001, .sl 33 2 (mvE (liTo w toads frogs k))), (12, .ext (.it w k))]⟩)
    (fun k => k ≤ w.length) (fun k => w.length - k) 0 (by omega) (Sub.nil 1001 33 2 ⟨rfl, rfl, rfl, rfl, rfl, trivial⟩ rfl rfl) ?_
  intro k hk
  have hl := liTo_len w toads frogs k
  have hs := liTo_succ w toads frogs k
  (repeat' ((conv => whnf); first | refine CondVC.t ?_ | refine CondVC.f ?_ | refine CondVC.dec (fun h => ?_) (fun h => ?_) | refine CondVC.ndec (fun h => ?_) (fun h => ?_) | refine CondVC.mk (fun h => ?_) (fun h => ?_) | refine ArVC.i64 (by first | omega | (simp only; omega)) ?_ | refine SideVC.mk (by first | omega | decide | (simp only; omega) | (simp [slS]; done) | (simp [slS]; omega) | (simp only [byteE_len, mvE_len, strE_len, intE_len, esC_len, List.length_cons, List.length_nil, List.length_append, List.length_replicate, List.length_set, Int.toNat_natCast, and_true] at *; omega)) ?_ | refine LoopN.go ?_ | exact trivial | refine AltVC.mk ?_ ?_ | refine HeldVC.mk rfl ?_ | refine NextVC.mk (fun hlt => ⟨ascii_getD hok hlt, ?_⟩) (fun hle => ?_) | refine OpVC.more tt_ok ?_ | refine RestVC.ext tt_ok ?_)); all_goals (conv => whnf)
  all_goals simp only [Int.toNat_natCast, u8_84, u8_70, Bool.not_eq_true', Bool.not_eq_false'] at *
  all_goals first
    | exact RetVC.res rfl (by rw [show k = w.length by omega]; rfl)
    | (exfalso; simp_all; done)
    | (have e : liAtF w toads frogs k = [] := by simp [-List.getD_eq_getElem?_getD, liAtF, skipF, *]
       rw [e, List.append_nil] at hs
       exact ⟨k + 1, by omega, by omega, Sub.mk [] _ ⟨rfl, rfl, rfl, rfl, rfl, trivial⟩ (by rw [hs]; rfl) rfl⟩)
    | skip
  all_goals
    have e : skipF w toads frogs k = false := by simp [-List.getD_eq_getElem?_getD, skipF, *]
    refine LoopVC.mk (G := Nat) (fun j => ⟨[(9, .v (i64 ((k : Int) - 2 + j))), (8, .v (i64 k)), (12, .v (.c (.ptr 12 0))), (7, .v (.c (.sl 1001))), (2, .v (vb frogs)), (1, .v (vb toads)), (0, .v (.c (.str w)))], [(1001, .sl 33 2 (mvE (liTo w toads frogs k ++ fiveTo w k j))), (12, .ext (.it w (k + 1)))]⟩)
      (fun j => j ≤ 5) (fun j => 5 - j) 0 (by omega) (Sub.mk [] [] ⟨by show _ = some (E.v (i64 ((k : Int) - 2 + (0 : Nat)))); simp [look, i64], rfl, rfl, rfl, rfl, rfl, rfl, trivial⟩ (by rw [show liTo w toads frogs k ++ fiveTo w k 0 = liTo w toads frogs k from by simp [fiveTo]]; rfl) rfl) ?_
    intro j hj
    have hfl := fiveTo_len w k j
    have hc := liCan_spec w ((k : Int), (k : Int) - 2 + j) hw
    (repeat' ((conv => whnf); first | refine CondVC.t ?_ | refine CondVC.f ?_ | refine CondVC.dec (fun h => ?_) (fun h => ?_) | refine CondVC.ndec (fun h => ?_) (fun h => ?_) | refine CondVC.mk (fun h => ?_) (fun h => ?_) | refine ArVC.i64 (by first | omega | (simp only; omega)) ?_ | refine SideVC.mk (by first | omega | decide | (simp only; omega) | (simp [slS]; done) | (simp [slS]; omega) | (simp only [byteE_len, mvE_len, strE_len, intE_len, esC_len, List.length_cons, List.length_nil, List.length_append, List.length_replicate, List.length_set, Int.toNat_natCast, and_true] at *; omega)) ?_ | refine LoopN.go ?_ | exact trivial | refine AltVC.mk ?_ ?_ | refine HeldVC.mk rfl ?_ | refine CallVC.pure hc rfl ?_ | refine OpVC.more tt_ok ?_ | refine RestVC.ext tt_ok ?_)); all_goals (conv => whnf)
    · have e9 : ((k : Int) - 2 + j) + 1 = (k : Int) - 2 + ((j + 1 : Nat) : Int) := by omega
      have hf := fiveTo_succ w k j (by omega)
      rw [if_pos h] at hf
      have hm : mvE (liTo w toads frogs k ++ fiveTo w k (j + 1)) = mvE (liTo w toads frogs k ++ fiveTo w k j) ++ [mvC ((k : Int), (k : Int) - 2 + j)] := by rw [hf, ← List.append_assoc, mvE_append]; rfl
      exact ⟨j + 1, by omega, by omega, Sub.mk [(1001, 51)] _ ⟨congrArg (fun z => some (E.v (i64 z))) e9, rfl, rfl, rfl, rfl, rfl, rfl, trivial⟩ (by rw [hm]; rfl) rfl⟩
    · have e9 : ((k : Int) - 2 + j) + 1 = (k : Int) - 2 + ((j + 1 : Nat) : Int) := by omega
      have hf := fiveTo_succ w k j (by omega)
      rw [if_neg (by simp [h]), List.append_nil] at hf
      exact ⟨j + 1, by omega, by omega, Sub.mk [] _ ⟨congrArg (fun z => some (E.v (i64 z))) e9, rfl, rfl, rfl, rfl, rfl, rfl, trivial⟩ (by rw [hf]; rfl) rfl⟩
    · have hf : fiveTo w k j = liAtF w toads frogs k := by
        rw [show j = 5 by omega]
        simp [fiveTo, liAtF, e, five]
      rw [hf, ← hs]
      exact ⟨k + 1, by omega, by omega, Sub.mk [] _ ⟨rfl, rfl, rfl, rfl, rfl, trivial⟩ rfl rfl⟩
end Go.Proofs.YtaidpalamhmghaaDoor.X
