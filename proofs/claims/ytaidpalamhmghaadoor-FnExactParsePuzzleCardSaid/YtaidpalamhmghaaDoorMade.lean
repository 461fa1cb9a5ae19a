/- Moves made; lines from the other side. No condition beyond each statement's. -/
import Derived.Test.YtaidpalamhmghaaDoorMove
namespace Go.Proofs.YtaidpalamhmghaaDoor.X
open Go.Proofs
set_option maxRecDepth 100000
set_option linter.unusedVariables false
set_option linter.unusedSimpArgs false

theorem set_at (w : Tx) (k : Nat) (b : UInt8) (h : k < w.length) : w.take k ++ [b] ++ w.drop (k + 1) = w.set k b := by
  rw [List.set_eq_take_append_cons_drop, if_pos h]; simp

theorem liPut_spec (w : Tx) (k : Int) (b : UInt8) (hk : 0 ≤ k ∧ k < w.length) (hw : w.length ≤ 1000000) : Spec Tryd.prog 119 [.c (.str w), i64 k, .c (.str [b])] [] (isRes [.c (.str (w.set k.toNat b))] []) := by
  obtain ⟨n, rfl⟩ := Int.eq_ofNat_of_zero_le hk.1
  have hn : n < w.length := by omega
  refine Spec.of_wpx tt_ok Tryd.func119 (by kernel_rfl) rfl ?_
  (repeat' ((conv => whnf); first | refine CondVC.t ?_ | refine CondVC.f ?_ | refine CondVC.dec (fun h => ?_) (fun h => ?_) | refine CondVC.ndec (fun h => ?_) (fun h => ?_) | refine CondVC.mk (fun h => ?_) (fun h => ?_) | refine ArVC.i64 (by first | omega | (simp only; omega)) ?_ | refine SideVC.mk (by first | omega | decide | (simp only; omega) | (simp [slS]; done) | (simp [slS]; omega) | (simp only [byteE_len, mvE_len, strE_len, intE_len, esC_len, List.length_cons, List.length_nil, List.length_append, List.length_replicate, List.length_set, Int.toNat_natCast, and_true] at *; omega)) ?_ | refine LoopN.go ?_ | exact trivial | refine AltVC.mk ?_ ?_ | refine HeldVC.mk rfl ?_ | refine DrawVC.quiet tt_ok (by kernel_rfl) (by kernel_rfl) ?_ | refine OpVC.more tt_ok ?_ | refine RestVC.ext tt_ok ?_)); all_goals (conv => whnf)
  all_goals first
    | (refine RetVC.res ?_ rfl
       simp only [Int.toNat_natCast]
       rw [← set_at w n b hn]
       have e : ((n : Int) + 1).toNat = n + 1 := by omega
       simp [slS, e])
    | (simp [slS] at *; omega)

theorem madeR {w : Tx} {m : Mv} : (madeF w m).length = w.length := madeF_len w m

theorem liMake_spec (w : Tx) (m : Mv) (h1 : 0 ≤ m.1 ∧ m.1 < w.length) (h2 : 0 ≤ m.2 ∧ m.2 < w.length) (hne : m.1 ≠ m.2) (hw : w.length ≤ 1000000) : Spec Tryd.prog 71 [.c (.str w), .agg (mvC m)] [] (isRes [.c (.str (madeF w m))] []) := by
  rw [madeF_eq (by omega)]
  obtain ⟨a, b⟩ := m
  simp only at h1 h2 hne
  obtain ⟨x, rfl⟩ := Int.eq_ofNat_of_zero_le h1.1
  have hx : x < w.length := by omega
  have hs : slS w (x : Int).toNat ((x : Int) + 1).toNat = [w.getD x 0] := by rw [show ((x : Int) + 1).toNat = x + 1 by omega, Int.toNat_natCast]; exact slS_one hx
  have p1 := liPut_spec w x 46 (by omega) hw
  have p2 := liPut_spec (w.set (x : Int).toNat 46) b (w.getD x 0) (by simp; omega) (by simp; omega)
  rw [← hs] at p2
  refine Spec.of_wpx tt_ok Tryd.func71 (by kernel_rfl) rfl ?_
  (repeat' ((conv => whnf); first | refine CondVC.t ?_ | refine CondVC.f ?_ | refine CondVC.dec (fun h => ?_) (fun h => ?_) | refine CondVC.ndec (fun h => ?_) (fun h => ?_) | refine CondVC.mk (fun h => ?_) (fun h => ?_) | refine ArVC.i64 (by first | omega | (simp only; omega)) ?_ | refine SideVC.mk (by first | omega | decide | (simp only; omega) | (simp [slS]; done) | (simp [slS]; omega) | (simp only [byteE_len, mvE_len, strE_len, intE_len, esC_len, List.length_cons, List.length_nil, List.length_append, List.length_replicate, List.length_set, Int.toNat_natCast, and_true] at *; omega)) ?_ | refine LoopN.go ?_ | exact trivial | refine AltVC.mk ?_ ?_ | refine HeldVC.mk rfl ?_ | refine DrawVC.quiet tt_ok (by kernel_rfl) (by kernel_rfl) ?_ | refine QCallVC.pure p1 rfl ?_ | refine QCallVC.pure p2 rfl ?_ | refine OpVC.more tt_ok ?_ | refine RestVC.ext tt_ok ?_)); all_goals (conv => whnf)
  all_goals exact RetVC.res rfl rfl

/-! ### Rows turned round -/
def revK (l : Tx) (k : Nat) : Tx := (List.range l.length).map fun p => if p < k ∨ l.length ≤ p + k then l.getD (l.length - 1 - p) 0 else l.getD p 0
theorem revK_len (l : Tx) (k : Nat) : (revK l k).length = l.length := by simp [revK]
theorem revK_get (l : Tx) (k : Nat) {p : Nat} (h : p < l.length) : (revK l k)[p]? = some (if p < k ∨ l.length ≤ p + k then l.getD (l.length - 1 - p) 0 else l.getD p 0) := by
  simp [revK, h]
theorem revK_getD (l : Tx) (k : Nat) {p : Nat} (h : p < l.length) : (revK l k).getD p 0 = if p < k ∨ l.length ≤ p + k then l.getD (l.length - 1 - p) 0 else l.getD p 0 := by
  rw [List.getD_eq_getElem?_getD, revK_get l k h, Option.getD_some]
theorem revK_zero (l : Tx) : revK l 0 = l := by
  apply List.ext_getElem?
  intro p
  by_cases h : p < l.length
  · rw [revK_get l 0 h, if_neg (by omega), List.getD_eq_getElem?_getD, List.getElem?_eq_getElem h]; rfl
  · rw [List.getElem?_eq_none (by rw [revK_len]; omega), List.getElem?_eq_none (by omega)]
theorem revK_end (l : Tx) (k : Nat) (h : l.length ≤ 2 * k + 1) : revK l k = l.reverse := by
  apply List.ext_getElem?
  intro p
  by_cases hp : p < l.length
  · rw [revK_get l k hp, List.getElem?_reverse hp]
    by_cases h2 : p < k ∨ l.length ≤ p + k
    · rw [if_pos h2, List.getD_eq_getElem?_getD, List.getElem?_eq_getElem (by omega)]; rfl
    · rw [if_neg h2, List.getD_eq_getElem?_getD, show l.length - 1 - p = p by omega, List.getElem?_eq_getElem hp]; rfl
  · rw [List.getElem?_eq_none (by rw [revK_len]; omega), List.getElem?_eq_none (by simp; omega)]
theorem revK_step (l : Tx) (k : Nat) (h : 2 * k + 1 < l.length) : ((revK l k).set k (l.getD (l.length - 1 - k) 0)).set (l.length - 1 - k) (l.getD k 0) = revK l (k + 1) := by
  apply List.ext_getElem?
  intro p
  by_cases hp : p < l.length
  · rw [List.getElem?_set, List.getElem?_set, revK_get l (k + 1) hp, List.length_set, revK_len]
    by_cases h1 : l.length - 1 - k = p
    · subst h1
      rw [if_pos rfl, if_pos (by omega), if_pos (by omega), show l.length - 1 - (l.length - 1 - k) = k by omega]
    · rw [if_neg h1]
      by_cases h2 : k = p
      · subst h2
        rw [if_pos rfl, if_pos (by omega), if_pos (by omega)]
      · rw [if_neg h2, revK_get l k hp]
        by_cases h3 : p < k ∨ l.length ≤ p + k
        · rw [if_pos h3, if_pos (by omega)]
        · rw [if_neg h3, if_neg (by omega)]
  · rw [List.getElem?_eq_none (by simp [revK_len]; omega), List.getElem?_eq_none (by rw [revK_len]; omega)]

theorem reverse_spec (l : Tx) (hl : l.length ≤ 2000000) : Spec Tryd.prog 130 [.c (.sl 1000)] [(1000, .ext (.fx 5 1 (byteE l)))] (isRes [] [(1000, .ext (.fx 5 1 (byteE l.reverse)))]) := by
  have hlen := byteE_len l
  refine Spec.of_wpx tt_ok Tryd.func130 (by kernel_rfl) rfl ?_
  (repeat' ((conv => whnf); first | refine CondVC.t ?_ | refine CondVC.f ?_ | refine CondVC.dec (fun h => ?_) (fun h => ?_) | refine CondVC.ndec (fun h => ?_) (fun h => ?_) | refine CondVC.mk (fun h => ?_) (fun h => ?_) | refine ArVC.i64 (by first | omega | (simp only; omega)) ?_ | refine SideVC.mk (by first | omega | decide | (simp only; omega) | (simp [slS]; done) | (simp [slS]; omega) | (simp only [byteE_len, mvE_len, strE_len, intE_len, esC_len, List.length_cons, List.length_nil, List.length_append, List.length_replicate, List.length_set, Int.toNat_natCast, and_true] at *; omega)) ?_ | refine LoopN.go ?_ | exact trivial | refine AltVC.mk ?_ ?_ | refine HeldVC.mk rfl ?_ | refine OpVC.more tt_ok ?_ | refine RestVC.ext tt_ok ?_)); all_goals (conv => whnf)
  refine LoopVC.mk (G := Nat) (fun k => ⟨[(3, .v (i64 ((l.length : Int) - 1 - k))), (2, .v (i64 k)), (0, .v (.c (.sl 1000)))], [(1000, .ext (.fx 5 1 (byteE (revK l k))))]⟩)
    (fun k => 2 * k ≤ l.length + 1) (fun k => l.length - k) 0 (by omega) (Sub.mk [] [] ⟨by rw [hlen]; exact congrArg (fun z => some (E.v (i64 z))) (show (l.length : Int) - 1 = (l.length : Int) - 1 - ((0 : Nat) : Int) by omega), rfl, rfl, trivial⟩ (by rw [revK_zero]; rfl) rfl) ?_
  intro k hk
  have hrl := byteE_len (revK l k)
  rw [revK_len] at hrl
  by_cases hlt : (k : Int) < (l.length : Int) - 1 - k
  · have ej : ((l.length : Int) - 1 - k).toNat = l.length - 1 - k := by omega
    have g1 : (byteE (revK l k))[((l.length : Int) - 1 - k).toNat]? = some [byteC (l.getD (l.length - 1 - k) 0)] := by
      rw [ej]; unfold byteE; rw [List.getElem?_map, revK_get l k (by omega), if_neg (by omega)]; rfl
    have g2 : (byteE (revK l k))[(k : Int).toNat]? = some [byteC (l.getD k 0)] := by
      rw [Int.toNat_natCast]; unfold byteE; rw [List.getElem?_map, revK_get l k (by omega), if_neg (by omega)]; rfl
    have g3 : ((byteE (revK l k)).set (k : Int).toNat [byteC (l.getD (l.length - 1 - k) 0)])[((l.length : Int) - 1 - k).toNat]? = some [byteC (l.getD (l.length - 1 - k) 0)] := by
      rw [List.getElem?_set, Int.toNat_natCast, if_neg (by omega)]; exact g1
    have hfin : (((byteE (revK l k)).set (k : Int).toNat [byteC (l.getD (l.length - 1 - k) 0)]).set ((l.length : Int) - 1 - k).toNat [byteC (l.getD k 0)]) = byteE (revK l (k + 1)) := by
      rw [ej, Int.toNat_natCast, byteE_set, byteE_set, revK_step l k (by omega)]
    (repeat' ((conv => whnf); first | refine CondVC.t ?_ | refine CondVC.f ?_ | refine CondVC.dec (fun h => ?_) (fun h => ?_) | refine CondVC.ndec (fun h => ?_) (fun h => ?_) | refine CondVC.mk (fun h => ?_) (fun h => ?_) | refine ArVC.i64 (by first | omega | (simp only; omega)) ?_ | refine SideVC.mk (by first | omega | decide | (simp only; omega) | (simp [slS]; done) | (simp [slS]; omega) | (simp only [byteE_len, mvE_len, strE_len, intE_len, esC_len, List.length_cons, List.length_nil, List.length_append, List.length_replicate, List.length_set, Int.toNat_natCast, and_true] at *; omega)) ?_ | refine LoopN.go ?_ | exact trivial | refine AltVC.mk ?_ ?_ | refine HeldVC.mk rfl ?_ | refine DrawVC.tree (id := 3) tt_ok [] tx130_3 (by kernel_rfl) (by kernel_rfl) rfl ?_ | refine LoadVC.mk _ g1 ?_ | refine LoadVC.mk _ g2 ?_ | refine LoadVC.mk _ g3 ?_ | refine OpVC.more tt_ok ?_ | refine RestVC.ext tt_ok ?_)); all_goals (conv => whnf)
    all_goals first
      | exact ⟨k + 1, by omega, by omega, Sub.mk [] _ ⟨congrArg (fun z => some (E.v (i64 z))) (show (l.length : Int) - 1 - k - 1 = (l.length : Int) - 1 - ((k + 1 : Nat) : Int) by omega), rfl, rfl, trivial⟩ (by rw [← hfin]; rfl) rfl⟩
      | (exfalso; omega)
  · (repeat' ((conv => whnf); first | refine CondVC.t ?_ | refine CondVC.f ?_ | refine CondVC.dec (fun h => ?_) (fun h => ?_) | refine CondVC.ndec (fun h => ?_) (fun h => ?_) | refine CondVC.mk (fun h => ?_) (fun h => ?_) | refine ArVC.i64 (by first | omega | (simp only; omega)) ?_ | refine SideVC.mk (by first | omega | decide | (simp only; omega) | (simp [slS]; done) | (simp [slS]; omega) | (simp only [byteE_len, mvE_len, strE_len, intE_len, esC_len, List.length_cons, List.length_nil, List.length_append, List.length_replicate, List.length_set, Int.toNat_natCast, and_true] at *; omega)) ?_ | refine LoopN.go ?_ | exact trivial | refine AltVC.mk ?_ ?_ | refine HeldVC.mk rfl ?_ | refine OpVC.more tt_ok ?_ | refine RestVC.ext tt_ok ?_)); all_goals (conv => whnf)
    all_goals first
      | (exfalso; omega)
      | exact RetVC.res rfl (by rw [revK_end l k (by omega)]; rfl)

theorem turned_spec (w : Tx) (hw : w.length ≤ 2000000) : Spec Tryd.prog 93 [.c (.str w)] [] (isRes [.c (.str (turnedF w))] []) := by
  have hr := reverse_spec w hw
  refine Spec.of_wpx tt_ok Tryd.func93 (by kernel_rfl) rfl ?_
  (repeat' ((conv => whnf); first | refine CondVC.t ?_ | refine CondVC.f ?_ | refine CondVC.dec (fun h => ?_) (fun h => ?_) | refine CondVC.ndec (fun h => ?_) (fun h => ?_) | refine CondVC.mk (fun h => ?_) (fun h => ?_) | refine ArVC.i64 (by first | omega | (simp only; omega)) ?_ | refine SideVC.mk (by first | omega | decide | (simp only; omega) | (simp [slS]; done) | (simp [slS]; omega) | (simp only [byteE_len, mvE_len, strE_len, intE_len, esC_len, List.length_cons, List.length_nil, List.length_append, List.length_replicate, List.length_set, Int.toNat_natCast, and_true] at *; omega)) ?_ | refine LoopN.go ?_ | exact trivial | refine AltVC.mk ?_ ?_ | refine HeldVC.mk rfl ?_ | refine CallVC.res [7] rfl (Spec.ren [(1000, 7)] [(7, 1000)] hr rfl rfl rfl) rfl ?_ | refine OpVC.more tt_ok ?_ | refine RestVC.ext tt_ok ?_)); all_goals (conv => whnf)
  refine LoopVC.mk (G := Nat) (fun k => ⟨[(12, .v (i64 k)), (11, .v (i64 w.length)), (10, .v (.c (.sl 7))), (3, .v (.c (.sl 7)))], [(7, .ext (.fx 5 1 (byteE ((w.reverse.take k).map otherF ++ w.reverse.drop k))))]⟩)
    (fun k => k ≤ w.length) (fun k => w.length - k) 0 (by omega) (Sub.mk [] _ ⟨rfl, by rw [byteE_len, List.length_reverse]; rfl, rfl, rfl, trivial⟩ rfl rfl) ?_
  intro k hk
  by_cases hlt : k < w.length
  · have hrk : k < w.reverse.length := by simpa using hlt
    have g1 : (byteE ((w.reverse.take k).map otherF ++ w.reverse.drop k))[k]? = some [byteC (w.reverse.getD k 0)] := by
      unfold byteE
      rw [List.getElem?_map, List.getElem?_append_right (by simp; omega), List.getElem?_drop, List.getD_eq_getElem?_getD]
      simp only [List.length_map, List.length_take, Nat.min_eq_left (Nat.le_of_lt hrk)]
      rw [show k + (k - k) = k by omega, List.getElem?_eq_getElem hrk]
      rfl
    have hfin : (byteE ((w.reverse.take k).map otherF ++ w.reverse.drop k)).set (k : Int).toNat [byteC (otherF (w.reverse.getD k 0))] = byteE ((w.reverse.take (k + 1)).map otherF ++ w.reverse.drop (k + 1)) := by
      rw [Int.toNat_natCast, byteE_set]
      congr 1
      rw [List.set_append_right _ _ (by simp; omega), List.take_succ_eq_append_getElem hrk, List.map_append, List.append_assoc]
      congr 1
      rw [List.drop_eq_getElem_cons hrk]
      simp only [List.length_map, List.length_take, Nat.min_eq_left (Nat.le_of_lt hrk), Nat.sub_self, List.set_cons_zero, List.map_cons, List.map_nil, List.singleton_append]
      rw [List.getD_eq_getElem?_getD, List.getElem?_eq_getElem hrk, Option.getD_some]
    have hL : (byteE ((w.reverse.take k).map otherF ++ w.reverse.drop k)).length = w.length := by rw [byteE_len]; simp; omega
    (repeat' ((conv => whnf); first | refine CondVC.t ?_ | refine CondVC.f ?_ | refine CondVC.dec (fun h => ?_) (fun h => ?_) | refine CondVC.ndec (fun h => ?_) (fun h => ?_) | refine CondVC.mk (fun h => ?_) (fun h => ?_) | refine ArVC.i64 (by first | omega | (simp only; omega)) ?_ | refine SideVC.mk (by first | omega | decide | (simp only; omega) | (simp [slS]; done) | (simp [slS]; omega) | (simp only [byteE_len, mvE_len, strE_len, intE_len, esC_len, List.length_cons, List.length_nil, List.length_append, List.length_replicate, List.length_set, Int.toNat_natCast, and_true] at *; omega)) ?_ | refine LoopN.go ?_ | exact trivial | refine AltVC.mk ?_ ?_ | refine HeldVC.mk rfl ?_ | refine LoadVC.mk _ g1 ?_ | refine CallVC.pure (other_spec _) rfl ?_ | refine SideVC.mk (by rw [hL]; omega) ?_ | refine OpVC.more tt_ok ?_ | refine RestVC.ext tt_ok ?_)); all_goals (conv => whnf)
    all_goals first
      | exact ⟨k + 1, by omega, by omega, Sub.mk [] _ ⟨rfl, rfl, rfl, rfl, trivial⟩ (by rw [← hfin]; rfl) rfl⟩
      | (exfalso; omega)
  · have ek : k = w.length := by omega
    subst ek
    (repeat' ((conv => whnf); first | refine CondVC.t ?_ | refine CondVC.f ?_ | refine CondVC.dec (fun h => ?_) (fun h => ?_) | refine CondVC.ndec (fun h => ?_) (fun h => ?_) | refine CondVC.mk (fun h => ?_) (fun h => ?_) | refine ArVC.i64 (by first | omega | (simp only; omega)) ?_ | refine SideVC.mk (by first | omega | decide | (simp only; omega) | (simp [slS]; done) | (simp [slS]; omega) | (simp only [byteE_len, mvE_len, strE_len, intE_len, esC_len, List.length_cons, List.length_nil, List.length_append, List.length_replicate, List.length_set, Int.toNat_natCast, and_true] at *; omega)) ?_ | refine LoopN.go ?_ | exact trivial | refine AltVC.mk ?_ ?_ | refine HeldVC.mk rfl ?_ | refine BytesVC.mk (turnedF w) (by simp [turnedF, List.take_of_length_le, List.drop_eq_nil_of_le, List.map_reverse]) ?_ | refine OpVC.more tt_ok ?_ | refine RestVC.ext tt_ok ?_)); all_goals (conv => whnf)
    all_goals first
      | exact RetVC.res rfl rfl
      | (exfalso; omega)

theorem madeF_nat (w : Tx) (x y : Nat) : (w.set y (w.getD x 0)).set x 46 = madeF w ((x : Int), (y : Int)) := rfl
theorem made_spec (w : Tx) (m : Mv) (h1 : 0 ≤ m.1 ∧ m.1 < w.length) (h2 : 0 ≤ m.2 ∧ m.2 < w.length) (hw : w.length ≤ 1000000) : Spec Tryd.prog 69 [.c (.str w), .agg (mvC m)] [] (isRes [.c (.str (madeF w m))] []) := by
  obtain ⟨a, b⟩ := m
  simp only at h1 h2
  obtain ⟨x, rfl⟩ := Int.eq_ofNat_of_zero_le h1.1
  obtain ⟨y, rfl⟩ := Int.eq_ofNat_of_zero_le h2.1
  have hx : x < w.length := by omega
  have hy : y < w.length := by omega
  have hL := byteE_len w
  have g1 : (byteE w)[(x : Int).toNat]? = some [byteC (w.getD x 0)] := by
    rw [Int.toNat_natCast, List.getD_eq_getElem?_getD, List.getElem?_eq_getElem hx]; exact byteE_get hx
  have g2 : (byteE w)[(y : Int).toNat]? = some [byteC (w.getD y 0)] := by
    rw [Int.toNat_natCast, List.getD_eq_getElem?_getD, List.getElem?_eq_getElem hy]; exact byteE_get hy
  have hL2 : ((byteE w).set (y : Int).toNat [byteC (w.getD x 0)]).length = w.length := by simp [hL]
  have g3 : ((byteE w).set (y : Int).toNat [byteC (w.getD x 0)])[(x : Int).toNat]? = some [byteC (w.getD x 0)] := by
    rw [List.getElem?_set]
    by_cases e : (y : Int).toNat = (x : Int).toNat
    · rw [if_pos e, if_pos (by rw [hL, Int.toNat_natCast]; exact hy)]
    · rw [if_neg e]; exact g1
  have hfin : ((byteE w).set (y : Int).toNat [byteC (w.getD x 0)]).set (x : Int).toNat [byteC 46] = byteE (madeF w ((x : Int), (y : Int))) := by
    rw [Int.toNat_natCast, Int.toNat_natCast, byteE_set, byteE_set]; rfl
  refine Spec.of_wpx tt_ok Tryd.func69 (by kernel_rfl) rfl ?_
  (repeat' ((conv => whnf); first | refine CondVC.t ?_ | refine CondVC.f ?_ | refine CondVC.dec (fun h => ?_) (fun h => ?_) | refine CondVC.ndec (fun h => ?_) (fun h => ?_) | refine CondVC.mk (fun h => ?_) (fun h => ?_) | refine ArVC.i64 (by first | omega | (simp only; omega)) ?_ | refine SideVC.mk (by first | omega | decide | (simp only; omega) | (simp [slS]; done) | (simp [slS]; omega) | (simp only [byteE_len, mvE_len, strE_len, intE_len, esC_len, List.length_cons, List.length_nil, List.length_append, List.length_replicate, List.length_set, Int.toNat_natCast, and_true] at *; omega)) ?_ | refine LoopN.go ?_ | exact trivial | refine AltVC.mk ?_ ?_ | refine HeldVC.mk rfl ?_ | refine DrawVC.tree (id := 2) tt_ok [3] tx69_2 (by kernel_rfl) (by kernel_rfl) rfl ?_ | refine LoadVC.mk _ g1 ?_ | refine LoadVC.mk _ g2 ?_ | refine SideVC.mk (by rw [List.length_set, hL]; omega) ?_ | refine SideVC.mk (by rw [hL]; omega) ?_ | refine BytesVC.mk (madeF w ((x : Int), (y : Int))) hfin ?_ | refine LoadVC.mk _ g3 ?_ | refine OpVC.more tt_ok ?_ | refine RestVC.ext tt_ok ?_)); all_goals (conv => whnf)
  all_goals first
    | exact RetVC.res rfl rfl
    | (exfalso; omega)

theorem otherF_lit (b : UInt8) (h : okCh b = true) : otherF b = if b = 84 then 70 else if b = 70 then 84 else 46 := by
  simp only [okCh, Bool.or_eq_true, decide_eq_true_eq] at h
  rcases h with h | h | h <;> subst h <;> decide
theorem liOther_spec (w : Tx) (hok : w.all okCh = true) (hw : w.length ≤ 1000000) : Spec Tryd.prog 94 [.c (.str w)] [] (isRes [.c (.str (turnedF w))] []) := by
  refine Spec.of_wpx tt_ok Tryd.func94 (by kernel_rfl) rfl ?_
  (repeat' ((conv => whnf); first | refine CondVC.t ?_ | refine CondVC.f ?_ | refine CondVC.dec (fun h => ?_) (fun h => ?_) | refine CondVC.ndec (fun h => ?_) (fun h => ?_) | refine CondVC.mk (fun h => ?_) (fun h => ?_) | refine ArVC.i64 (by first | omega | (simp only; omega)) ?_ | refine SideVC.mk (by first | omega | decide | (simp only; omega) | (simp [slS]; done) | (simp [slS]; omega) | (simp only [byteE_len, mvE_len, strE_len, intE_len, esC_len, List.length_cons, List.length_nil, List.length_append, List.length_replicate, List.length_set, Int.toNat_natCast, and_true] at *; omega)) ?_ | refine LoopN.go ?_ | exact trivial | refine AltVC.mk ?_ ?_ | refine HeldVC.mk rfl ?_ | refine OpVC.more tt_ok ?_ | refine RestVC.ext tt_ok ?_)); all_goals (conv => whnf)
  refine LoopVC.mk (G := Nat) (fun k => ⟨[(4, .v (i64 ((w.length : Int) - 1 - k))), (3, .v (.c (.str ((w.reverse.take k).map otherF)))), (0, .v (.c (.str w)))], []⟩)
    (fun k => k ≤ w.length) (fun k => w.length - k) 0 (by omega) (Sub.mk [] [] ⟨congrArg (fun z => some (E.v (i64 z))) (show (w.length : Int) - 1 = (w.length : Int) - 1 - ((0 : Nat) : Int) by omega), rfl, rfl, trivial⟩ rfl rfl) ?_
  intro k hk
  by_cases hlt : k < w.length
  · have hrk : k < w.reverse.length := by simpa using hlt
    have ej : ((w.length : Int) - 1 - k).toNat = w.length - 1 - k := by omega
    have hget : w.getD ((w.length : Int) - 1 - k).toNat 0 = w.reverse.getD k 0 := by
      rw [ej, List.getD_eq_getElem?_getD, List.getD_eq_getElem?_getD, List.getElem?_reverse hlt]
    have hfin : (w.reverse.take (k + 1)).map otherF = (w.reverse.take k).map otherF ++ [otherF (w.reverse.getD k 0)] := by
      rw [List.take_succ_eq_append_getElem hrk, List.map_append, List.getD_eq_getElem?_getD, List.getElem?_eq_getElem hrk]; rfl
    have hch := otherF_lit _ (all_getD hok (i := ((w.length : Int) - 1 - k).toNat) (by omega))
    rw [hget] at hch
    (repeat' ((conv => whnf); first | refine CondVC.t ?_ | refine CondVC.f ?_ | refine CondVC.dec (fun h => ?_) (fun h => ?_) | refine CondVC.ndec (fun h => ?_) (fun h => ?_) | refine CondVC.mk (fun h => ?_) (fun h => ?_) | refine ArVC.i64 (by first | omega | (simp only; omega)) ?_ | refine SideVC.mk (by first | omega | decide | (simp only; omega) | (simp [slS]; done) | (simp [slS]; omega) | (simp only [byteE_len, mvE_len, strE_len, intE_len, esC_len, List.length_cons, List.length_nil, List.length_append, List.length_replicate, List.length_set, Int.toNat_natCast, and_true] at *; omega)) ?_ | refine LoopN.go ?_ | exact trivial | refine AltVC.mk ?_ ?_ | refine HeldVC.mk rfl ?_ | refine OpVC.more tt_ok ?_ | refine RestVC.ext tt_ok ?_)); all_goals (conv => whnf)
    all_goals simp only [hget, u8_84, u8_70, u8_46] at *
    all_goals first
      | (exfalso; omega)
      | exact ⟨k + 1, by omega, by omega, Sub.mk [] _ ⟨congrArg (fun z => some (E.v (i64 z))) (show (w.length : Int) - 1 - k - 1 = (w.length : Int) - 1 - ((k + 1 : Nat) : Int) by omega), by rw [hfin, hch]; simp only [*, if_true, if_false]; rfl, rfl, trivial⟩ rfl rfl⟩
  · (repeat' ((conv => whnf); first | refine CondVC.t ?_ | refine CondVC.f ?_ | refine CondVC.dec (fun h => ?_) (fun h => ?_) | refine CondVC.ndec (fun h => ?_) (fun h => ?_) | refine CondVC.mk (fun h => ?_) (fun h => ?_) | refine ArVC.i64 (by first | omega | (simp only; omega)) ?_ | refine SideVC.mk (by first | omega | decide | (simp only; omega) | (simp [slS]; done) | (simp [slS]; omega) | (simp only [byteE_len, mvE_len, strE_len, intE_len, esC_len, List.length_cons, List.length_nil, List.length_append, List.length_replicate, List.length_set, Int.toNat_natCast, and_true] at *; omega)) ?_ | refine LoopN.go ?_ | exact trivial | refine AltVC.mk ?_ ?_ | refine HeldVC.mk rfl ?_ | refine OpVC.more tt_ok ?_ | refine RestVC.ext tt_ok ?_)); all_goals (conv => whnf)
    all_goals first
      | (exfalso; omega)
      | exact RetVC.res (by rw [List.take_of_length_le (by simp; omega)]; rfl) rfl

def otherAskF (w : Tx) (most : Int) : Tx := if lineOf w most then turnedF w else []
theorem implOtherLine_spec (w : Tx) (hw : w.length ≤ 1048576) : Spec Tryd.prog 44 [.c (.str w)] [] (isRes [.c (.str (otherAskF w 12)), vb (lineOf w 12)] []) := by
  refine Spec.of_wpx tt_ok Tryd.func44 (by kernel_rfl) rfl ?_
  have h1 := isLine_spec w (by omega)
  cases hl : lineOf w 12 with
  | true =>
    rw [hl] at h1
    (repeat' ((conv => whnf); first | refine CondVC.t ?_ | refine CondVC.f ?_ | refine CondVC.dec (fun h => ?_) (fun h => ?_) | refine CondVC.ndec (fun h => ?_) (fun h => ?_) | refine CondVC.mk (fun h => ?_) (fun h => ?_) | refine ArVC.i64 (by first | omega | (simp only; omega)) ?_ | refine SideVC.mk (by first | omega | decide | (simp only; omega) | (simp [slS]; done) | (simp [slS]; omega) | (simp only [byteE_len, mvE_len, strE_len, intE_len, esC_len, List.length_cons, List.length_nil, List.length_append, List.length_replicate, List.length_set, Int.toNat_natCast, and_true] at *; omega)) ?_ | refine LoopN.go ?_ | exact trivial | refine AltVC.mk ?_ ?_ | refine HeldVC.mk rfl ?_ | refine CallVC.pure h1 rfl ?_ | refine CallVC.pure (turned_spec w (by have := line_len hl; omega)) rfl ?_ | refine OpVC.more tt_ok ?_ | refine RestVC.ext tt_ok ?_)); all_goals (conv => whnf)
    all_goals exact RetVC.res (by simp [otherAskF, hl, vb]) rfl
  | false =>
    rw [hl] at h1
    (repeat' ((conv => whnf); first | refine CondVC.t ?_ | refine CondVC.f ?_ | refine CondVC.dec (fun h => ?_) (fun h => ?_) | refine CondVC.ndec (fun h => ?_) (fun h => ?_) | refine CondVC.mk (fun h => ?_) (fun h => ?_) | refine ArVC.i64 (by first | omega | (simp only; omega)) ?_ | refine SideVC.mk (by first | omega | decide | (simp only; omega) | (simp [slS]; done) | (simp [slS]; omega) | (simp only [byteE_len, mvE_len, strE_len, intE_len, esC_len, List.length_cons, List.length_nil, List.length_append, List.length_replicate, List.length_set, Int.toNat_natCast, and_true] at *; omega)) ?_ | refine LoopN.go ?_ | exact trivial | refine AltVC.mk ?_ ?_ | refine HeldVC.mk rfl ?_ | refine CallVC.pure h1 rfl ?_ | refine OpVC.more tt_ok ?_ | refine RestVC.ext tt_ok ?_)); all_goals (conv => whnf)
    all_goals exact RetVC.res (by simp [otherAskF, hl, vb]) rfl
theorem specOtherLine_spec (w : Tx) (hw : w.length ≤ 1048576) : Spec Tryd.prog 45 [.c (.str w)] [] (isRes [.c (.str (otherAskF w 12)), vb (lineOf w 12)] []) := by
  refine Spec.of_wpx tt_ok Tryd.func45 (by kernel_rfl) rfl ?_
  have h1 := liGood_spec w (by omega)
  cases hl : lineOf w 12 with
  | true =>
    rw [hl] at h1
    (repeat' ((conv => whnf); first | refine CondVC.t ?_ | refine CondVC.f ?_ | refine CondVC.dec (fun h => ?_) (fun h => ?_) | refine CondVC.ndec (fun h => ?_) (fun h => ?_) | refine CondVC.mk (fun h => ?_) (fun h => ?_) | refine ArVC.i64 (by first | omega | (simp only; omega)) ?_ | refine SideVC.mk (by first | omega | decide | (simp only; omega) | (simp [slS]; done) | (simp [slS]; omega) | (simp only [byteE_len, mvE_len, strE_len, intE_len, esC_len, List.length_cons, List.length_nil, List.length_append, List.length_replicate, List.length_set, Int.toNat_natCast, and_true] at *; omega)) ?_ | refine LoopN.go ?_ | exact trivial | refine AltVC.mk ?_ ?_ | refine HeldVC.mk rfl ?_ | refine CallVC.pure h1 rfl ?_ | refine CallVC.pure (liOther_spec w (line_ok hl) (by have := line_len hl; omega)) rfl ?_ | refine OpVC.more tt_ok ?_ | refine RestVC.ext tt_ok ?_)); all_goals (conv => whnf)
    all_goals exact RetVC.res (by simp [otherAskF, hl, vb]) rfl
  | false =>
    rw [hl] at h1
    (repeat' ((conv => whnf); first | refine CondVC.t ?_ | refine CondVC.f ?_ | refine CondVC.dec (fun h => ?_) (fun h => ?_) | refine CondVC.ndec (fun h => ?_) (fun h => ?_) | refine CondVC.mk (fun h => ?_) (fun h => ?_) | refine ArVC.i64 (by first | omega | (simp only; omega)) ?_ | refine SideVC.mk (by first | omega | decide | (simp only; omega) | (simp [slS]; done) | (simp [slS]; omega) | (simp only [byteE_len, mvE_len, strE_len, intE_len, esC_len, List.length_cons, List.length_nil, List.length_append, List.length_replicate, List.length_set, Int.toNat_natCast, and_true] at *; omega)) ?_ | refine LoopN.go ?_ | exact trivial | refine AltVC.mk ?_ ?_ | refine HeldVC.mk rfl ?_ | refine CallVC.pure h1 rfl ?_ | refine OpVC.more tt_ok ?_ | refine RestVC.ext tt_ok ?_)); all_goals (conv => whnf)
    all_goals exact RetVC.res (by simp [otherAskF, hl, vb]) rfl

theorem lineRing (w : Tx) : (lineOf w 12 && decide (3 ≤ (w.length : Int) ∧ (w.length : Int) ≤ 9)) = (lineOf w 9 && decide (3 ≤ (w.length : Int))) := by
  unfold lineOf
  cases w.all okCh
  · simp
  · simp only [Bool.and_true]
    rw [Bool.eq_iff_iff]; simp only [Bool.and_eq_true, decide_eq_true_eq]; omega
def ringOf (w : Tx) : Bool := lineOf w 9 && decide (3 ≤ (w.length : Int))
theorem ringOf_line {w : Tx} (h : ringOf w = true) : lineOf w 9 = true := by simp only [ringOf, Bool.and_eq_true] at h; exact h.1
def ringAskF (w : Tx) : Tx := if ringOf w then turnedF w else []
end Go.Proofs.YtaidpalamhmghaaDoor.X
