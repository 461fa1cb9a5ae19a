/- Moves played one behind the other: how far they can be made. No condition. -/
import Derived.Test.YtaidpalamhmghaaDoorSwapF
namespace Go.Proofs.YtaidpalamhmghaaDoor.X
set_option linter.unusedVariables false
set_option linter.unusedSimpArgs false

def canG (w : Tx) (m : Mv) : Bool := decide (0 ≤ m.1 ∧ m.1 ≤ (w.length : Int) - 1) && decide (goalF w m.1 = some m.2)
theorem canG_mem {w : Tx} {m : Mv} : canG w m = true ↔ m ∈ movesF w both := by
  constructor
  · intro h
    simp only [canG, Bool.and_eq_true, decide_eq_true_eq] at h
    obtain ⟨h1, h2⟩ := h
    obtain ⟨a, b⟩ := m
    simp only at h1 h2
    obtain ⟨i, rfl⟩ := Int.eq_ofNat_of_zero_le h1.1
    refine List.mem_filterMap.2 ⟨i, List.mem_range.2 (by omega), ?_⟩
    unfold moveAt
    rw [h2]
    have hs := goalF_spec h2
    have hc : both.contains (w.getD i 0) = true := by
      rcases stepF_three (w.getD i 0) with ⟨e, _⟩ | ⟨e, _⟩ | e
      · rw [e]; decide
      · rw [e]; decide
      · exact absurd e hs.2.2.2.1
    simp only [hc, if_true]
  · intro h
    obtain ⟨i, hi, e, hg, _⟩ := movesF_mem h
    simp only [canG, Bool.and_eq_true, decide_eq_true_eq]
    rw [e]
    exact ⟨by omega, hg⟩
theorem canF_eq {w : Tx} {m : Mv} (hok : w.all okCh = true) : canF w m = canG w m := by
  by_cases h1 : 0 ≤ m.1 ∧ m.1 < w.length
  · rw [canF_at h1]
    obtain ⟨a, b⟩ := m
    simp only at h1 ⊢
    obtain ⟨i, rfl⟩ := Int.eq_ofNat_of_zero_le h1.1
    have hi : i < w.length := by omega
    have hc := all_getD hok hi
    simp only [okCh, Bool.or_eq_true, decide_eq_true_eq] at hc
    unfold canG goalF
    simp only [Int.toNat_natCast]
    rw [decide_eq_true (show 0 ≤ (i : Int) ∧ (i : Int) ≤ (w.length : Int) - 1 by omega), Bool.true_and]
    rw [Bool.eq_iff_iff]
    rcases hc with h | h | h
    · simp only [h, stepF, otherF, if_true]
      simp only [show ¬ ((1 : Int) = 0) from by decide, if_false]
      by_cases c1 : atF w ((i : Int) + 1) = 46
      · simp only [c1, if_true, Bool.and_eq_true, Bool.or_eq_true, decide_eq_true_eq, Option.some.injEq, show ¬ ((46 : UInt8) = 70) from by decide, and_false, or_false]
        constructor
        · rintro ⟨_, e⟩; exact e.symm
        · intro e; subst e; exact ⟨c1, rfl⟩
      · rw [if_neg c1]
        by_cases c2 : atF w ((i : Int) + 1) = 70 ∧ atF w ((i : Int) + 2 * 1) = 46
        · rw [if_pos c2]
          simp only [Bool.and_eq_true, Bool.or_eq_true, decide_eq_true_eq, Option.some.injEq]
          constructor
          · rintro ⟨h46, e | ⟨e, _⟩⟩
            · subst e; exact absurd h46 c1
            · omega
          · intro e
            subst e
            exact ⟨c2.2, .inr ⟨by omega, c2.1⟩⟩
        · rw [if_neg c2]
          simp only [Bool.and_eq_true, Bool.or_eq_true, decide_eq_true_eq, reduceCtorEq, iff_false]
          rintro ⟨h46, e | ⟨e, h70⟩⟩
          · subst e; exact c1 h46
          · subst e; exact c2 ⟨h70, h46⟩
    · simp only [h, stepF, otherF, if_true, if_false, show ¬ ((70 : UInt8) = 84) from by decide]
      simp only [show ¬ ((-1 : Int) = 0) from by decide, if_false]
      have e1 : (i : Int) + -1 = (i : Int) - 1 := by omega
      have e2 : (i : Int) + 2 * -1 = (i : Int) - 2 := by omega
      rw [e1, e2]
      by_cases c1 : atF w ((i : Int) - 1) = 46
      · simp only [c1, if_true, Bool.and_eq_true, Bool.or_eq_true, decide_eq_true_eq, Option.some.injEq, show ¬ ((46 : UInt8) = 84) from by decide, and_false, or_false]
        constructor
        · rintro ⟨_, e⟩; exact e.symm
        · intro e; subst e; exact ⟨c1, rfl⟩
      · rw [if_neg c1]
        by_cases c2 : atF w ((i : Int) - 1) = 84 ∧ atF w ((i : Int) - 2) = 46
        · rw [if_pos c2]
          simp only [Bool.and_eq_true, Bool.or_eq_true, decide_eq_true_eq, Option.some.injEq]
          constructor
          · rintro ⟨h46, e | ⟨e, _⟩⟩
            · subst e; exact absurd h46 c1
            · omega
          · intro e
            subst e
            exact ⟨c2.2, .inr ⟨by omega, c2.1⟩⟩
        · rw [if_neg c2]
          simp only [Bool.and_eq_true, Bool.or_eq_true, decide_eq_true_eq, reduceCtorEq, iff_false]
          rintro ⟨h46, e | ⟨e, h84⟩⟩
          · subst e; exact c1 h46
          · subst e; exact c2 ⟨h84, h46⟩
    · simp [-List.getD_eq_getElem?_getD, h, stepF]
  · have e1 : canF w m = false := by
      unfold canF; rw [decide_eq_false (show ¬ (0 ≤ m.1 ∧ m.1 ≤ (w.length : Int) - 1) by omega)]; rfl
    have e2 : canG w m = false := by
      unfold canG; rw [decide_eq_false (show ¬ (0 ≤ m.1 ∧ m.1 ≤ (w.length : Int) - 1) by omega)]; rfl
    rw [e1, e2]

/-- The line behind the first k moves. -/
def wAt (w : Tx) (l : List Mv) (k : Nat) : Tx := (l.take k).foldl madeF w
/-- How many moves can be made. -/
def cntF : Tx → List Mv → Nat
  | _, [] => 0
  | w, m :: l => if canG w m then cntF (madeF w m) l + 1 else 0
theorem wAt_zero (w : Tx) (l : List Mv) : wAt w l 0 = w := rfl
theorem wAt_succ (w : Tx) {l : List Mv} {k : Nat} (h : k < l.length) : wAt w l (k + 1) = madeF (wAt w l k) l[k] := by
  unfold wAt
  rw [List.take_succ_eq_append_getElem h, List.foldl_append]; rfl
theorem wAt_len (w : Tx) (l : List Mv) : ∀ k, (wAt w l k).length = w.length := by
  have : ∀ (l : List Mv) (w : Tx), (l.foldl madeF w).length = w.length := by
    intro l
    induction l with
    | nil => intro w; rfl
    | cons m l ih => intro w; rw [List.foldl_cons, ih, madeF_len]
  intro k
  exact this _ _
theorem cntF_le : ∀ (l : List Mv) (w : Tx), cntF w l ≤ l.length
  | [], w => Nat.le_refl _
  | m :: l, w => by
    unfold cntF
    split
    · have := cntF_le l (madeF w m); simp only [List.length_cons]; omega
    · omega
theorem cntF_from (w : Tx) (l : List Mv) : ∀ (k : Nat), k ≤ l.length → (∀ j (hj : j < l.length), j < k → canG (wAt w l j) l[j] = true) → cntF w l = k + cntF (wAt w l k) (l.drop k)
  | 0, _, _ => by simp [wAt_zero]
  | k + 1, hk, h => by
    rw [cntF_from w l k (by omega) fun j hj hjk => h j hj (by omega), List.drop_eq_getElem_cons (by omega : k < l.length), cntF, if_pos (h k (by omega) (by omega)), wAt_succ w (by omega : k < l.length)]
    omega
theorem cntF_at {w : Tx} {l : List Mv} {k : Nat} (hk : k < l.length) (h : ∀ j (hj : j < l.length), j < k → canG (wAt w l j) l[j] = true) (h0 : canG (wAt w l k) l[k] = false) : cntF w l = k := by
  rw [cntF_from w l k (by omega) h, List.drop_eq_getElem_cons hk, cntF, h0]
  simp
theorem cntF_end {w : Tx} {l : List Mv} (h : ∀ j (hj : j < l.length), canG (wAt w l j) l[j] = true) : cntF w l = l.length := by
  rw [cntF_from w l l.length (Nat.le_refl _) fun j hj _ => h j hj]
  simp [cntF]
theorem cntF_all : ∀ {l : List Mv} {w : Tx}, cntF w l = l.length → ∀ j (hj : j < l.length), canG (wAt w l j) l[j] = true
  | [], w, _, j, hj => absurd hj (Nat.not_lt_zero _)
  | m :: l, w, h, j, hj => by
    unfold cntF at h
    split at h
    · rename_i hc
      cases j with
      | zero => exact hc
      | succ j =>
        simp only [List.length_cons] at h hj
        have := cntF_all (l := l) (w := madeF w m) (by omega) j (by omega)
        simpa [wAt] using this
    · simp at h
theorem wAt_take (w : Tx) (l : List Mv) {j k : Nat} (h : j ≤ k) : wAt w (l.take k) j = wAt w l j := by
  unfold wAt
  rw [List.take_take, Nat.min_eq_left h]
theorem cntF_take {w : Tx} {l : List Mv} {k : Nat} (hk : k ≤ l.length) (h : cntF w l = l.length) : cntF w (l.take k) = k := by
  have h1 := cntF_all h
  have h2 : (l.take k).length = k := by simp; omega
  rw [cntF_end (w := w) (l := l.take k) fun j hj => ?_, h2]
  rw [wAt_take w l (by omega), List.getElem_take]
  exact h1 j (by omega)
theorem wAt_ok {w : Tx} {l : List Mv} (hok : w.all okCh = true) : ∀ (k : Nat), k ≤ l.length → (∀ j (hj : j < l.length), j < k → canG (wAt w l j) l[j] = true) → (wAt w l k).all okCh = true ∧ lastF (wAt w l k) = lastF w
  | 0, _, _ => ⟨hok, rfl⟩
  | k + 1, hk, h => by
    obtain ⟨h1, h2⟩ := wAt_ok hok k (by omega) fun j hj hjk => h j hj (by omega)
    rw [wAt_succ w (by omega : k < l.length)]
    have h3 := canG_mem.1 (h k (by omega) (by omega))
    have h4 := movesF_in h3
    exact ⟨okCh_made h1 (by omega), (lastF_made h3).trans h2⟩
theorem exch_legal (last : Bool) (g : Tx) : ∀ (n : Nat) (w : Tx), wayF w = n → cntF w (exchF last g w) = (exchF last g w).length
  | n, w, hn => by
    rw [exchF]
    split
    · rfl
    · split
      · rfl
      · rename_i m h
        have h0 := (liveF_mem (pickF_mem h)).1
        have h1 := way_made h0
        have h2 := exch_legal last g (wayF (madeF w m)) (madeF w m) rfl
        rw [cntF, if_pos (canG_mem.2 h0), h2]
        rfl
termination_by n => n
decreasing_by omega
end Go.Proofs.YtaidpalamhmghaaDoor.X
