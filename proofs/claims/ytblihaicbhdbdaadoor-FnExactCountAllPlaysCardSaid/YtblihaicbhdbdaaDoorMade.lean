/- Moves made; lines from the other side. No condition beyond each statement's. -/
import Derived.Test.YtblihaicbhdbdaaDoorMove
namespace Go.Proofs.YtblihaicbhdbdaaDoor.X
open Go.Proofs
set_option maxRecDepth 100000
set_option linter.unusedVariables false
set_option linter.unusedSimpArgs false

theorem set_at (w : Tx) (k : Nat) (b : UInt8) (h : k < w.length) : w.take k ++ [b] ++ w.drop (k + 1) = w.set k b := by
  rw [List.set_eq_take_append_cons_drop, if_pos h]; simp

theorem liPut_spec (w : Tx) (k : Int) (b : UInt8) (hk : 0 ≤ k ∧ k < w.length) (hw : w.length ≤ 1000000) : Spec Tryd.prog 59 [.c (.str w), i64 k, .c (.str [b])] [] (isRes [.c (.str (w.set k.toNat b))] []) := by
  obtain ⟨n, rfl⟩ := Int.eq_ofNat_of_zero_le hk.1
  have hn : n < w.length := by omega
  refine Spec.of_wpx tt_ok Tryd.func59 (by kernel_rfl) rfl ?_
  (repeat' ((conv => whnf); first | refine CondVC.t ?_ | refine CondVC.f ?_ | refine CondVC.dec (fun h => ?_) (fun h => ?_) | refine CondVC.ndec (fun h => ?_) (fun h => ?_) | refine CondVC.mk (fun h => ?_) (fun h => ?_) | refine ArVC.i64 (by first | omega | (simp only; omega)) ?_ | refine SideVC.mk (by first | omega | decide | (simp only; omega) | (simp [slS]; done) | (simp [slS]; omega) | (simp only [byteE_len, mvE_len, strE_len, intE_len, esC_len, List.length_cons, List.length_nil, List.length_append, List.length_replicate, List.length_set, Int.toNat_natCast, and_true] at *; omega)) ?_ | refine LoopN.go ?_ | exact trivial | refine AltVC.mk ?_ ?_ | refine HeldVC.mk rfl ?_ | refine DrawVC.quiet tt_ok (by kernel_rfl) (by kernel_rfl) ?_ | refine OpVC.more tt_ok ?_ | refine RestVC.ext tt_ok ?_)); all_goals (conv => whnf)
  all_goals first
    | (refine RetVC.res ?_ rfl
       simp only [Int.toNat_natCast]
       rw [← set_at w n b hn]
       have e : ((n : Int) + 1).toNat = n + 1 := by omega
       simp [slS, e])
    | (simp [slS] at *; omega)

theorem madeR {w : Tx} {m : Mv} : (madeF w m).length = w.length := madeF_len w m

theorem liMake_spec (w : Tx) (m : Mv) (h1 : 0 ≤ m.1 ∧ m.1 < w.length) (h2 : 0 ≤ m.2 ∧ m.2 < w.length) (hne : m.1 ≠ m.2) (hw : w.length ≤ 1000000) : Spec Tryd.prog 39 [.c (.str w), .agg (mvC m)] [] (isRes [.c (.str (madeF w m))] []) := by
  rw [madeF_eq (by omega)]
  obtain ⟨a, b⟩ := m
  simp only at h1 h2 hne
  obtain ⟨x, rfl⟩ := Int.eq_ofNat_of_zero_le h1.1
  have hx : x < w.length := by omega
  have hs : slS w (x : Int).toNat ((x : Int) + 1).toNat = [w.getD x 0] := by rw [show ((x : Int) + 1).toNat = x + 1 by omega, Int.toNat_natCast]; exact slS_one hx
  have p1 := liPut_spec w x 46 (by omega) hw
  have p2 := liPut_spec (w.set (x : Int).toNat 46) b (w.getD x 0) (by simp; omega) (by simp; omega)
  rw [← hs] at p2
  refine Spec.of_wpx tt_ok Tryd.func39 (by kernel_rfl) rfl ?_
  (repeat' ((conv => whnf); first | refine CondVC.t ?_ | refine CondVC.f ?_ | refine CondVC.dec (fun h => ?_) (fun h => ?_) | refine CondVC.ndec (fun h => ?_) (fun h => ?_) | refine CondVC.mk (fun h => ?_) (fun h => ?_) | refine ArVC.i64 (by first | omega | (simp only; omega)) ?_ | refine SideVC.mk (by first | omega | decide | (simp only; omega) | (simp [slS]; done) | (simp [slS]; omega) | (simp only [byteE_len, mvE_len, strE_len, intE_len, esC_len, List.length_cons, List.length_nil, List.length_append, List.length_replicate, List.length_set, Int.toNat_natCast, and_true] at *; omega)) ?_ | refine LoopN.go ?_ | exact trivial | refine AltVC.mk ?_ ?_ | refine HeldVC.mk rfl ?_ | refine DrawVC.quiet tt_ok (by kernel_rfl) (by kernel_rfl) ?_ | refine QCallVC.pure p1 rfl ?_ | refine QCallVC.pure p2 rfl ?_ | refine OpVC.more tt_ok ?_ | refine RestVC.ext tt_ok ?_)); all_goals (conv => whnf)
  all_goals exact RetVC.res rfl rfl

/-! ### Rows turned round -/
def revK (l : Tx) (k : Nat) : Tx := (List.range l.length).map fun p => if p < k ∨ l.length ≤ p + k then l.getD (l.length - 1 - p) 0 else l.getD p 0
theorem revK_len (l : Tx) (k : Nat) : (revK l k).length = l.length := by simp [revK]
theorem revK_get (l : Tx) (k : Nat) {p : Nat} (h : p < l.length) : (revK l k)[p]? = some (if p < k ∨ l.length ≤ p + k then l.getD (l.length - 1 - p) 0 else l.getD p 0) := by
  simp [revK, h]
theorem revK_getD (l : Tx) (k : Nat) {p : Nat} (h : p < l.length) : (revK l k).getD p 0 = if p < k ∨ l.length ≤ p + k then l.getD (l.length - 1 - p) 0 else l.getD p 0 := by
  rw [List.getD_eq_getElem?_getD, revK_get l k h, Option.getD_some]
theorem revK_zero (l : Tx) : revK l 0 = l := by
  apply List.ext_getElem?
  intro p
  by_cases h : p < l.length
  · rw [revK_get l 0 h, if_neg (by omega), List.getD_eq_getElem?_getD, List.getElem?_eq_getElem h]; rfl
  · rw [List.getElem?_eq_none (by rw [revK_len]; omega), List.getElem?_eq_none (by omega)]
theorem revK_end (l : Tx) (k : Nat) (h : l.length ≤ 2 * k + 1) : revK l k = l.reverse := by
  apply List.ext_getElem?
  intro p
  by_cases hp : p < l.length
  · rw [revK_get l k hp, List.getElem?_reverse hp]
    by_cases h2 : p < k ∨ l.length ≤ p + k
    · rw [if_pos h2, List.getD_eq_getElem?_getD, List.getElem?_eq_getElem (by omega)]; rfl
    · rw [if_neg h2, List.getD_eq_getElem?_getD, show l.length - 1 - p = p by omega, List.getElem?_eq_getElem hp]; rfl
  · rw [List.getElem?_eq_none (by rw [revK_len]; omega), List.getElem?_eq_none (by simp; omega)]
theorem revK_step (l : Tx) (k : Nat) (h : 2 * k + 1 < l.length) : ((revK l k).set k (l.getD (l.length - 1 - k) 0)).set (l.length - 1 - k) (l.getD k 0) = revK l (k + 1) := by
  apply List.ext_getElem?
  intro p
  by_cases hp : p < l.length
  · rw [List.getElem?_set, List.getElem?_set, revK_get l (k + 1) hp, List.length_set, revK_len]
    by_cases h1 : l.length - 1 - k = p
    · subst h1
      rw [if_pos rfl, if_pos (by omega), if_pos (by omega), show l.length - 1 - (l.length - 1 - k) = k by omega]
    · rw [if_neg h1]
      by_cases h2 : k = p
      · subst h2
        rw [if_pos rfl, if_pos (by omega), if_pos (by omega)]
      · rw [if_neg h2, revK_get l k hp]
        by_cases h3 : p < k ∨ l.length ≤ p + k
        · rw [if_pos h3, if_pos (by omega)]
        · rw [if_neg h3, if_neg (by omega)]
  · rw [List.getElem?_eq_none (by simp [revK_len]; omega), List.getElem?_eq_none (by rw [revK_len]; omega)]



theorem madeF_nat (w : Tx) (x y : Nat) : (w.set y (w.getD x 0)).set x 46 = madeF w ((x : Int), (y : Int)) := rfl
theorem made_spec (w : Tx) (m : Mv) (h1 : 0 ≤ m.1 ∧ m.1 < w.length) (h2 : 0 ≤ m.2 ∧ m.2 < w.length) (hw : w.length ≤ 1000000) : Spec Tryd.prog 35 [.c (.str w), .agg (mvC m)] [] (isRes [.c (.str (madeF w m))] []) := by
  obtain ⟨a, b⟩ := m
  simp only at h1 h2
  obtain ⟨x, rfl⟩ := Int.eq_ofNat_of_zero_le h1.1
  obtain ⟨y, rfl⟩ := Int.eq_ofNat_of_zero_le h2.1
  have hx : x < w.length := by omega
  have hy : y < w.length := by omega
  have hL := byteE_len w
  have g1 : (byteE w)[(x : Int).toNat]? = some [byteC (w.getD x 0)] := by
    rw [Int.toNat_natCast, List.getD_eq_getElem?_getD, List.getElem?_eq_getElem hx]; exact byteE_get hx
  have g2 : (byteE w)[(y : Int).toNat]? = some [byteC (w.getD y 0)] := by
    rw [Int.toNat_natCast, List.getD_eq_getElem?_getD, List.getElem?_eq_getElem hy]; exact byteE_get hy
  have hL2 : ((byteE w).set (y : Int).toNat [byteC (w.getD x 0)]).length = w.length := by simp [hL]
  have g3 : ((byteE w).set (y : Int).toNat [byteC (w.getD x 0)])[(x : Int).toNat]? = some [byteC (w.getD x 0)] := by
    rw [List.getElem?_set]
    by_cases e : (y : Int).toNat = (x : Int).toNat
    · rw [if_pos e, if_pos (by rw [hL, Int.toNat_natCast]; exact hy)]
    · rw [if_neg e]; exact g1
  have hfin : ((byteE w).set (y : Int).toNat [byteC (w.getD x 0)]).set (x : Int).toNat [byteC 46] = byteE (madeF w ((x : Int), (y : Int))) := by
    rw [Int.toNat_natCast, Int.toNat_natCast, byteE_set, byteE_set]; rfl
  refine Spec.of_wpx tt_ok Tryd.func35 (by kernel_rfl) rfl ?_
  (repeat' ((conv => whnf); first | refine CondVC.t ?_ | refine CondVC.f ?_ | refine CondVC.dec (fun h => ?_) (fun h => ?_) | refine CondVC.ndec (fun h => ?_) (fun h => ?_) | refine CondVC.mk (fun h => ?_) (fun h => ?_) | refine ArVC.i64 (by first | omega | (simp only; omega)) ?_ | refine SideVC.mk (by first | omega | decide | (simp only; omega) | (simp [slS]; done) | (simp [slS]; omega) | (simp only [byteE_len, mvE_len, strE_len, intE_len, esC_len, List.length_cons, List.length_nil, List.length_append, List.length_replicate, List.length_set, Int.toNat_natCast, and_true] at *; omega)) ?_ | refine LoopN.go ?_ | exact trivial | refine AltVC.mk ?_ ?_ | refine HeldVC.mk rfl ?_ | refine DrawVC.tree (id := 2) tt_ok [3] tx35_2 (by kernel_rfl) (by kernel_rfl) rfl ?_ | refine LoadVC.mk _ g1 ?_ | refine LoadVC.mk _ g2 ?_ | refine SideVC.mk (by rw [List.length_set, hL]; omega) ?_ | refine SideVC.mk (by rw [hL]; omega) ?_ | refine BytesVC.mk (madeF w ((x : Int), (y : Int))) hfin ?_ | refine LoadVC.mk _ g3 ?_ | refine OpVC.more tt_ok ?_ | refine RestVC.ext tt_ok ?_)); all_goals (conv => whnf)
  all_goals first
    | exact RetVC.res rfl rfl
    | (exfalso; omega)

theorem otherF_lit (b : UInt8) (h : okCh b = true) : otherF b = if b = 84 then 70 else if b = 70 then 84 else 46 := by
  simp only [okCh, Bool.or_eq_true, decide_eq_true_eq] at h
  rcases h with h | h | h <;> subst h <;> decide

def otherAskF (w : Tx) (most : Int) : Tx := if lineOf w most then turnedF w else []

theorem lineRing (w : Tx) : (lineOf w 12 && decide (3 ≤ (w.length : Int) ∧ (w.length : Int) ≤ 9)) = (lineOf w 9 && decide (3 ≤ (w.length : Int))) := by
  unfold lineOf
  cases w.all okCh
  · simp
  · simp only [Bool.and_true]
    rw [Bool.eq_iff_iff]; simp only [Bool.and_eq_true, decide_eq_true_eq]; omega
def ringOf (w : Tx) : Bool := lineOf w 9 && decide (3 ≤ (w.length : Int))
theorem ringOf_line {w : Tx} (h : ringOf w = true) : lineOf w 9 = true := by simp only [ringOf, Bool.and_eq_true] at h; exact h.1
def ringAskF (w : Tx) : Tx := if ringOf w then turnedF w else []
end Go.Proofs.YtblihaicbhdbdaaDoor.X
