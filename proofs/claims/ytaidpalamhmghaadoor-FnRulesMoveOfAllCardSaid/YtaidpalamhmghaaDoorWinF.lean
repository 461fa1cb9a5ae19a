/- Sums of lines as games: who moving first wins; a sum as one line with signs between. No condition. -/
import Derived.Test.YtaidpalamhmghaaDoorWayF
namespace Go.Proofs.YtaidpalamhmghaaDoor.X
set_option linter.unusedVariables false
set_option linter.unusedSimpArgs false

def kOf (toads : Bool) : Tx := if toads then [84] else [70]
theorem kOf_kinds (b : Bool) : kindsF b (!b) = kOf b := by cases b <;> rfl
def winF (s : Tx) (toads : Bool) : Bool := (movesF s (kOf toads)).attach.any fun m => !winF (madeF s m.1) (!toads)
termination_by wayF s
decreasing_by exact way_made m.2
theorem winF_eq (s : Tx) (toads : Bool) : winF s toads = (movesF s (kOf toads)).any fun m => !winF (madeF s m) (!toads) := by
  rw [winF, List.any_eq, List.any_eq]
  simp

/-! ### A line with a strange sign in it -/
def glue (a b : Tx) : Tx := a ++ 32 :: b
theorem glue_len (a b : Tx) : (glue a b).length = a.length + 1 + b.length := by simp [glue]; omega
theorem glue_l {a b : Tx} {i : Nat} (h : i < a.length) : (glue a b).getD i 0 = a.getD i 0 := by
  simp only [glue, List.getD_eq_getElem?_getD]; rw [List.getElem?_append_left h]
theorem glue_m {a b : Tx} : (glue a b).getD a.length 0 = 32 := by
  simp only [glue, List.getD_eq_getElem?_getD]; rw [List.getElem?_append_right (Nat.le_refl _)]; simp
theorem glue_r {a b : Tx} {i : Nat} : (glue a b).getD (a.length + 1 + i) 0 = b.getD i 0 := by
  simp only [glue, List.getD_eq_getElem?_getD]; rw [List.getElem?_append_right (by omega), show a.length + 1 + i - a.length = i + 1 by omega]; simp

theorem stepF_cs (b : UInt8) : (b = 84 ∧ stepF b = 1 ∧ otherF b = 70) ∨ (b = 70 ∧ stepF b = -1 ∧ otherF b = 84) ∨ stepF b = 0 := by
  unfold stepF otherF
  by_cases h1 : b = 84
  · exact .inl ⟨h1, by simp [h1], by simp [h1]⟩
  · by_cases h2 : b = 70
    · subst h2; exact .inr (.inl ⟨rfl, rfl, rfl⟩)
    · exact .inr (.inr (by simp [h1, h2]))

theorem at_l {a b : Tx} {j : Int} (h : j < a.length) : atF (glue a b) j = atF a j := by
  by_cases h0 : 0 ≤ j
  · obtain ⟨n, rfl⟩ := Int.eq_ofNat_of_zero_le h0
    rw [atF_in (by rw [glue_len]; omega), atF_in (by omega), Int.toNat_natCast, glue_l (by omega)]
  · rw [atF_out (by omega), atF_out (by omega)]
theorem at_m {a b : Tx} : atF (glue a b) (a.length : Int) = 32 := by
  rw [atF_in (by rw [glue_len]; omega), Int.toNat_natCast, glue_m]
theorem at_r {a b : Tx} {j : Int} (h : 0 ≤ j) : atF (glue a b) (a.length + 1 + j) = atF b j := by
  obtain ⟨n, rfl⟩ := Int.eq_ofNat_of_zero_le h
  by_cases h1 : n < b.length
  · rw [atF_in (by rw [glue_len]; omega), atF_in (by omega), show ((a.length : Int) + 1 + (n : Int)).toNat = a.length + 1 + n by omega, glue_r]; rfl
  · rw [atF_out (by rw [glue_len]; omega), atF_out (by omega)]
theorem at_end {a : Tx} {j : Int} (h : (a.length : Int) ≤ j) : atF a j = 0 := atF_out (by omega)
theorem at_neg {a : Tx} {j : Int} (h : j < 0) : atF a j = 0 := atF_out (by omega)

theorem goal_l {a b : Tx} {i : Nat} (h : i < a.length) : goalF (glue a b) i = goalF a i := by
  unfold goalF
  simp only [Int.toNat_natCast]
  rw [glue_l h]
  rcases stepF_cs (a.getD i 0) with ⟨e, e1, e2⟩ | ⟨e, e1, e2⟩ | e1
  · rw [e1, e2]
    simp only [show ¬ ((1 : Int) = 0) from by decide, if_false]
    by_cases h1 : i + 1 < a.length
    · rw [at_l (j := (i : Int) + 1) (by omega)]
      by_cases h2 : i + 2 < a.length
      · rw [at_l (j := (i : Int) + 2 * 1) (by omega)]
      · rw [show (i : Int) + 2 * 1 = a.length by omega, at_m, at_end (Int.le_refl _)]; simp
    · rw [show (i : Int) + 1 = a.length by omega, at_m, at_end (Int.le_refl _)]; simp
  · rw [e1, at_l (j := (i : Int) + -1) (by omega), at_l (j := (i : Int) + 2 * -1) (by omega)]
  · rw [e1]; simp
theorem goal_m {a b : Tx} : goalF (glue a b) (a.length : Nat) = none := by
  unfold goalF
  simp only [Int.toNat_natCast]
  rw [glue_m, show stepF 32 = 0 from by decide]
  simp
theorem goal_r {a b : Tx} {i : Nat} (h : i < b.length) : goalF (glue a b) ((a.length + 1 + i : Nat) : Int) = (goalF b i).map fun t : Int => t + ((a.length : Int) + 1) := by
  unfold goalF
  simp only [Int.toNat_natCast]
  rw [glue_r]
  rcases stepF_cs (b.getD i 0) with ⟨e, e1, e2⟩ | ⟨e, e1, e2⟩ | e1
  · rw [e1, e2, show ((a.length + 1 + i : Nat) : Int) + 1 = a.length + 1 + ((i : Int) + 1) by omega, at_r (by omega), show ((a.length + 1 + i : Nat) : Int) + 2 * 1 = a.length + 1 + ((i : Int) + 2 * 1) by omega, at_r (by omega)]
    simp only [show ¬ ((1 : Int) = 0) from by decide, if_false]
    split
    · simp only [Option.map_some]; congr 1; omega
    · split
      · simp only [Option.map_some]; congr 1; omega
      · rfl
  · rw [e1, e2]
    simp only [show ¬ ((-1 : Int) = 0) from by decide, if_false]
    by_cases h1 : 1 ≤ i
    · rw [show ((a.length + 1 + i : Nat) : Int) + -1 = a.length + 1 + ((i : Int) + -1) by omega, at_r (by omega)]
      by_cases h2 : 2 ≤ i
      · rw [show ((a.length + 1 + i : Nat) : Int) + 2 * -1 = a.length + 1 + ((i : Int) + 2 * -1) by omega, at_r (by omega)]
        split
        · simp only [Option.map_some]; congr 1; omega
        · split
          · simp only [Option.map_some]; congr 1; omega
          · rfl
      · rw [show ((a.length + 1 + i : Nat) : Int) + 2 * -1 = a.length by omega, at_m, at_neg (j := (i : Int) + 2 * -1) (by omega)]
        split
        · simp only [Option.map_some]; congr 1; omega
        · simp
    · rw [show ((a.length + 1 + i : Nat) : Int) + -1 = a.length by omega, at_m, at_neg (j := (i : Int) + -1) (by omega)]
      simp
  · rw [e1]; simp

def shiftM (n : Nat) (m : Mv) : Mv := (m.1 + n, m.2 + n)
theorem moves_glue_mem {a b kd : Tx} {m : Mv} : m ∈ movesF (glue a b) kd ↔ m ∈ movesF a kd ∨ ∃ m', m' ∈ movesF b kd ∧ m = shiftM (a.length + 1) m' := by
  constructor
  · intro h
    obtain ⟨i, hi, e, hg, hk⟩ := movesF_mem h
    rw [glue_len] at hi
    by_cases h1 : i < a.length
    · rw [goal_l h1] at hg
      rw [glue_l h1] at hk
      refine .inl (List.mem_filterMap.2 ⟨i, List.mem_range.2 h1, ?_⟩)
      unfold moveAt
      rw [hg]
      simp only [hk, if_true]
      rw [← e]
    · by_cases h2 : i = a.length
      · subst h2
        rw [goal_m] at hg
        cases hg
      · obtain ⟨j, rfl⟩ : ∃ j, i = a.length + 1 + j := ⟨i - (a.length + 1), by omega⟩
        rw [goal_r (by omega)] at hg
        rw [glue_r] at hk
        cases hgb : goalF b j with
        | none => rw [hgb] at hg; cases hg
        | some t =>
          rw [hgb] at hg
          simp only [Option.map_some, Option.some.injEq] at hg
          refine .inr ⟨((j : Int), t), List.mem_filterMap.2 ⟨j, List.mem_range.2 (by omega), ?_⟩, ?_⟩
          · unfold moveAt; rw [hgb]; simp only [hk, if_true]
          · obtain ⟨x, y⟩ := m
            simp only at e hg
            simp only [shiftM, Prod.mk.injEq]
            omega
  · rintro (h | ⟨m', h, rfl⟩)
    · obtain ⟨i, hi, e, hg, hk⟩ := movesF_mem h
      refine List.mem_filterMap.2 ⟨i, List.mem_range.2 (by rw [glue_len]; omega), ?_⟩
      unfold moveAt
      rw [goal_l hi, hg, glue_l hi]
      simp only [hk, if_true]
      rw [← e]
    · obtain ⟨i, hi, e, hg, hk⟩ := movesF_mem h
      refine List.mem_filterMap.2 ⟨a.length + 1 + i, List.mem_range.2 (by rw [glue_len]; omega), ?_⟩
      unfold moveAt
      rw [goal_r hi, hg, glue_r]
      simp only [Option.map_some, hk, if_true, Option.some.injEq, shiftM, Prod.mk.injEq]
      rw [e]
      omega

theorem ext_getD {a b : Tx} (h : a.length = b.length) (h2 : ∀ i, i < a.length → a.getD i 0 = b.getD i 0) : a = b := by
  apply List.ext_getElem h
  intro i h3 h4
  have := h2 i h3
  rw [List.getD_eq_getElem?_getD, List.getD_eq_getElem?_getD, List.getElem?_eq_getElem h3, List.getElem?_eq_getElem h4] at this
  exact this

theorem made_glue_l {a b kd : Tx} {m : Mv} (h : m ∈ movesF a kd) : madeF (glue a b) m = glue (madeF a m) b := by
  obtain ⟨h1, h2, _⟩ := movesF_in h
  obtain ⟨x, y⟩ := m
  simp only at h1 h2
  obtain ⟨x, rfl⟩ := Int.eq_ofNat_of_zero_le h1.1
  obtain ⟨y, rfl⟩ := Int.eq_ofNat_of_zero_le h2.1
  unfold madeF
  simp only [Int.toNat_natCast]
  rw [glue_l (by omega)]
  unfold glue
  rw [List.set_append_left _ _ (by omega), List.set_append_left _ _ (by simp; omega)]
theorem made_glue_r {a b kd : Tx} {m : Mv} (h : m ∈ movesF b kd) : madeF (glue a b) (shiftM (a.length + 1) m) = glue a (madeF b m) := by
  obtain ⟨h1, h2, _⟩ := movesF_in h
  obtain ⟨x, y⟩ := m
  simp only at h1 h2
  obtain ⟨x, rfl⟩ := Int.eq_ofNat_of_zero_le h1.1
  obtain ⟨y, rfl⟩ := Int.eq_ofNat_of_zero_le h2.1
  unfold madeF shiftM
  simp only [Int.toNat_natCast]
  rw [show ((x : Int) + ((a.length + 1 : Nat) : Int)).toNat = a.length + 1 + x by omega, show ((y : Int) + ((a.length + 1 : Nat) : Int)).toNat = a.length + 1 + y by omega, glue_r]
  unfold glue
  rw [List.set_append_right _ _ (by omega), List.set_append_right _ _ (by omega), show a.length + 1 + y - a.length = y + 1 by omega, show a.length + 1 + x - a.length = x + 1 by omega]
  rfl

/-! ### Lines joined -/
def joinF : List Tx → Tx
  | [] => []
  | [a] => a
  | a :: b :: r => glue a (joinF (b :: r))
theorem moves_nil (kd : Tx) : movesF [] kd = [] := rfl
theorem join_moves : ∀ (ls : List Tx) (kd : Tx) (w : Tx), (∃ m ∈ movesF (joinF ls) kd, madeF (joinF ls) m = w) ↔ ∃ k, ∃ h : k < ls.length, ∃ m ∈ movesF ls[k] kd, joinF (ls.set k (madeF ls[k] m)) = w
  | [], kd, w => by
    constructor
    · rintro ⟨m, hm, _⟩; rw [joinF, moves_nil] at hm; cases hm
    · rintro ⟨k, h, _⟩; simp at h
  | [a], kd, w => by
    constructor
    · rintro ⟨m, hm, e⟩; exact ⟨0, by simp, m, hm, e⟩
    · rintro ⟨k, h, m, hm, e⟩
      have : k = 0 := by simp at h; exact h
      subst this
      exact ⟨m, hm, e⟩
  | a :: b :: r, kd, w => by
    constructor
    · rintro ⟨m, hm, e⟩
      rw [joinF] at hm e
      rcases moves_glue_mem.1 hm with h' | ⟨m', h', rfl⟩
      · rw [made_glue_l h'] at e
        exact ⟨0, by simp, m, h', e⟩
      · rw [made_glue_r h'] at e
        obtain ⟨k, h, m2, h2, e2⟩ := (join_moves (b :: r) kd _).1 ⟨m', h', rfl⟩
        refine ⟨k + 1, by simpa using h, m2, by simpa using h2, ?_⟩
        rw [← e, ← e2]
        simp only [List.set_cons_succ, List.getElem_cons_succ]
        cases k with
        | zero => rfl
        | succ k => rfl
    · rintro ⟨k, h, m, hm, e⟩
      rw [joinF]
      cases k with
      | zero =>
        have h' : m ∈ movesF a kd := hm
        refine ⟨m, moves_glue_mem.2 (.inl h'), ?_⟩
        rw [made_glue_l h']; exact e
      | succ k =>
        simp only [List.getElem_cons_succ] at hm e
        obtain ⟨m', h1, e1⟩ := (join_moves (b :: r) kd _).2 ⟨k, by simpa using h, m, hm, rfl⟩
        refine ⟨shiftM (a.length + 1) m', moves_glue_mem.2 (.inr ⟨m', h1, rfl⟩), ?_⟩
        rw [made_glue_r h1, e1, ← e]
        cases k with
        | zero => rfl
        | succ k => rfl

theorem win_join (ls : List Tx) (toads : Bool) : winF (joinF ls) toads = true ↔ ∃ k, ∃ h : k < ls.length, ∃ m ∈ movesF ls[k] (kOf toads), winF (joinF (ls.set k (madeF ls[k] m))) (!toads) = false := by
  rw [winF_eq, List.any_eq_true]
  simp only [Bool.not_eq_true']
  constructor
  · rintro ⟨m, hm, hw⟩
    obtain ⟨k, h, m2, h2, e⟩ := (join_moves ls (kOf toads) _).1 ⟨m, hm, rfl⟩
    exact ⟨k, h, m2, h2, by rw [e]; exact hw⟩
  · rintro ⟨k, h, m2, h2, hw⟩
    obtain ⟨m, hm, e⟩ := (join_moves ls (kOf toads) _).2 ⟨k, h, m2, h2, rfl⟩
    exact ⟨m, hm, by rw [e]; exact hw⟩
theorem way_join {ls : List Tx} {k : Nat} (h : k < ls.length) {kd : Tx} {m : Mv} (hm : m ∈ movesF ls[k] kd) : wayF (joinF (ls.set k (madeF ls[k] m))) < wayF (joinF ls) := by
  obtain ⟨m', h1, e⟩ := (join_moves ls kd _).2 ⟨k, h, m, hm, rfl⟩
  rw [← e]; exact way_made h1

/-! ### The reference's keys -/
def keyF (toads : Bool) (ls : List Tx) : Tx := (if toads then 116 else 102) :: ls.flatMap fun w => 47 :: w
theorem flat_inj : ∀ {ls ls' : List Tx}, (∀ w ∈ ls, (47 : UInt8) ∉ w) → (∀ w ∈ ls', (47 : UInt8) ∉ w) → (ls.flatMap fun w => (47 : UInt8) :: w) = (ls'.flatMap fun w => (47 : UInt8) :: w) → ls = ls'
  | [], [], _, _, _ => rfl
  | [], w :: r, _, _, h => by simp at h
  | w :: r, [], _, _, h => by simp at h
  | w :: r, w' :: r', h1, h2, h => by
    simp only [List.flatMap_cons, List.cons_append, List.cons.injEq, true_and] at h
    have key : ∀ (u u' : Tx) (x x' : List Tx), (47 : UInt8) ∉ u → (47 : UInt8) ∉ u' → u ++ (x.flatMap fun w => (47 : UInt8) :: w) = u' ++ (x'.flatMap fun w => (47 : UInt8) :: w) → u = u' ∧ (x.flatMap fun w => (47 : UInt8) :: w) = (x'.flatMap fun w => (47 : UInt8) :: w) := by
      intro u
      induction u with
      | nil =>
        intro u' x x' _ hu' he
        cases u' with
        | nil => exact ⟨rfl, he⟩
        | cons c u' =>
          cases x with
          | nil => simp at he
          | cons y x =>
            simp only [List.nil_append, List.flatMap_cons, List.cons_append, List.cons.injEq] at he
            exact absurd (by rw [he.1]; simp) hu'
      | cons c u ih =>
        intro u' x x' hu hu' he
        cases u' with
        | nil =>
          cases x' with
          | nil => simp at he
          | cons y x' =>
            simp only [List.nil_append, List.flatMap_cons, List.cons_append, List.cons.injEq] at he
            exact absurd (by rw [he.1]; simp) hu
        | cons c' u' =>
          simp only [List.cons_append, List.cons.injEq] at he
          obtain ⟨e1, e2⟩ := ih u' x x' (fun hm => hu (List.mem_cons_of_mem _ hm)) (fun hm => hu' (List.mem_cons_of_mem _ hm)) he.2
          exact ⟨by rw [he.1, e1], e2⟩
    obtain ⟨e1, e2⟩ := key w w' r r' (h1 w List.mem_cons_self) (h2 w' List.mem_cons_self) h
    rw [e1, flat_inj (fun x hx => h1 x (List.mem_cons_of_mem _ hx)) (fun x hx => h2 x (List.mem_cons_of_mem _ hx)) e2]
theorem key_inj {t t' : Bool} {ls ls' : List Tx} (h1 : ∀ w ∈ ls, w.all okCh = true) (h2 : ∀ w ∈ ls', w.all okCh = true) (h : keyF t ls = keyF t' ls') : t = t' ∧ ls = ls' := by
  have hno : ∀ w : Tx, w.all okCh = true → (47 : UInt8) ∉ w := fun w hw hm => by
    have := List.all_eq_true.1 hw _ hm
    revert this; decide
  unfold keyF at h
  simp only [List.cons.injEq] at h
  refine ⟨?_, flat_inj (fun w hw => hno w (h1 w hw)) (fun w hw => hno w (h2 w hw)) h.2⟩
  cases t <;> cases t' <;> simp at h <;> rfl
end Go.Proofs.YtaidpalamhmghaaDoor.X
