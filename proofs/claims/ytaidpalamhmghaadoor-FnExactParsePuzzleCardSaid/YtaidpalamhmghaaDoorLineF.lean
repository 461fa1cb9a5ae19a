/- Lines: what the functions of the program and of the reference compute, and that they compute the same. No condition. -/
import Derived.Test.YtaidpalamhmghaaDoorBase
namespace Go.Proofs.YtaidpalamhmghaaDoor.X
set_option linter.unusedVariables false
set_option linter.unusedSimpArgs false

def okCh (b : UInt8) : Bool := decide (b = 84) || (decide (b = 70) || decide (b = 46))
/-- A line of at most so many cells. -/
def lineOf (w : Tx) (most : Int) : Bool := decide (1 ≤ (w.length : Int) ∧ (w.length : Int) ≤ most) && w.all okCh

def stepF (b : UInt8) : Int := if b = 84 then 1 else if b = 70 then -1 else 0
def otherF (b : UInt8) : UInt8 := if b = 84 then 70 else if b = 70 then 84 else b
def atF (w : Tx) (i : Int) : UInt8 := if i < 0 ∨ (w.length : Int) ≤ i then 0 else w.getD i.toNat 0
def goalF (w : Tx) (i : Int) : Option Int :=
  let d := stepF (w.getD i.toNat 0)
  if d = 0 then none else if atF w (i + d) = 46 then some (i + d) else
    if atF w (i + d) = otherF (w.getD i.toNat 0) ∧ atF w (i + 2 * d) = 46 then some (i + 2 * d) else none
def moveAt (w kinds : Tx) (i : Nat) : Option Mv := match goalF w i with
  | some t => if kinds.contains (w.getD i 0) then some ((i : Int), t) else none
  | none => none
def movesF (w kinds : Tx) : List Mv := (List.range w.length).filterMap (moveAt w kinds)

def canF (w : Tx) (m : Mv) : Bool :=
  decide (0 ≤ m.1 ∧ m.1 ≤ (w.length : Int) - 1) && (decide (0 ≤ m.2 ∧ m.2 ≤ (w.length : Int) - 1) && (decide (w.getD m.2.toNat 0 = 46) &&
    (if w.getD m.1.toNat 0 = 84 then decide (m.2 = m.1 + 1) || (decide (m.2 = m.1 + 2) && decide (w.getD (m.1 + 1).toNat 0 = 70))
     else if w.getD m.1.toNat 0 = 70 then decide (m.2 = m.1 - 1) || (decide (m.2 = m.1 - 2) && decide (w.getD (m.1 - 1).toNat 0 = 84)) else false)))

/-- The cells from which the reference looks for moves of kinds. -/
def skipF (w : Tx) (toads frogs : Bool) (i : Nat) : Bool := (decide (w.getD i 0 = 84) && !toads) || (decide (w.getD i 0 = 70) && !frogs)
def five (i : Nat) : List Mv := [((i : Int), (i : Int) - 2), ((i : Int), (i : Int) - 1), ((i : Int), (i : Int)), ((i : Int), (i : Int) + 1), ((i : Int), (i : Int) + 2)]
def liAtF (w : Tx) (toads frogs : Bool) (i : Nat) : List Mv := if skipF w toads frogs i then [] else (five i).filter (canF w)
def liMovesF (w : Tx) (toads frogs : Bool) : List Mv := (List.range w.length).flatMap (liAtF w toads frogs)

def kindsF (toads frogs : Bool) : Tx := (if toads then [84] else []) ++ (if frogs then [70] else [])

theorem atF_in {w : Tx} {i : Int} (h : 0 ≤ i ∧ i < w.length) : atF w i = w.getD i.toNat 0 := by unfold atF; rw [if_neg (by omega)]
theorem atF_out {w : Tx} {i : Int} (h : ¬ (0 ≤ i ∧ i < w.length)) : atF w i = 0 := by unfold atF; rw [if_pos (by omega)]

theorem canF_at {w : Tx} {m : Mv} (h1 : 0 ≤ m.1 ∧ m.1 < w.length) : canF w m =
    (decide (atF w m.2 = 46) && (if w.getD m.1.toNat 0 = 84 then decide (m.2 = m.1 + 1) || (decide (m.2 = m.1 + 2) && decide (atF w (m.1 + 1) = 70))
     else if w.getD m.1.toNat 0 = 70 then decide (m.2 = m.1 - 1) || (decide (m.2 = m.1 - 2) && decide (atF w (m.1 - 1) = 84)) else false)) := by
  unfold canF
  have e1 : decide (0 ≤ m.1 ∧ m.1 ≤ (w.length : Int) - 1) = true := decide_eq_true (by omega)
  rw [e1, Bool.true_and]
  by_cases h2 : 0 ≤ m.2 ∧ m.2 < w.length
  · rw [atF_in h2, decide_eq_true (show 0 ≤ m.2 ∧ m.2 ≤ (w.length : Int) - 1 by omega), Bool.true_and]
    congr 1
    split
    · congr 1
      by_cases h3 : m.2 = m.1 + 2
      · rw [atF_in (i := m.1 + 1) (by omega)]
      · simp [h3]
    · split
      · congr 1
        by_cases h3 : m.2 = m.1 - 2
        · rw [atF_in (i := m.1 - 1) (by omega)]
        · simp [h3]
      · rfl
  · rw [atF_out h2, decide_eq_false (show ¬ (0 ≤ m.2 ∧ m.2 ≤ (w.length : Int) - 1) by omega)]
    simp

/-- What the reference finds at a cell is what the program finds. -/
theorem liAt_eq {w : Tx} {toads frogs : Bool} {i : Nat} (hi : i < w.length) (hok : okCh (w.getD i 0) = true) : liAtF w toads frogs i = (moveAt w (kindsF toads frogs) i).toList := by
  have hc : ∀ t : Int, canF w ((i : Int), t) = _ := fun t => canF_at (m := ((i : Int), t)) (by simp; omega)
  simp only [Int.toNat_natCast] at hc
  unfold liAtF moveAt goalF skipF
  simp only [Int.toNat_natCast]
  simp only [okCh, Bool.or_eq_true, decide_eq_true_eq] at hok
  rcases hok with h | h | h
  · -- a toad
    simp only [h, if_true, decide_true, Bool.true_and, show (84 : UInt8) ≠ 70 from by decide, decide_false, Bool.false_and, Bool.or_false, stepF, otherF] at hc ⊢
    simp only [show ¬ ((1 : Int) = 0) from by decide, if_false]
    cases toads with
    | false =>
      have : (kindsF false frogs).contains (84 : UInt8) = false := by cases frogs <;> decide
      simp only [Bool.not_false, if_true, this]
      split <;> rfl
    | true =>
      have : (kindsF true frogs).contains (84 : UInt8) = true := by cases frogs <;> decide
      simp only [Bool.not_true, Bool.false_eq_true, if_false, this, if_true, five, List.filter_cons, List.filter_nil, hc]
      by_cases h1 : atF w ((i : Int) + 1) = 46
      · have n1 : ¬ ((i : Int) - 2 = (i : Int) + 1) := by omega
        have n2 : ¬ ((i : Int) - 1 = (i : Int) + 1) := by omega
        have n3 : ¬ ((i : Int) = (i : Int) + 1) := by omega
        have n4 : ¬ ((i : Int) - 2 = (i : Int) + 2) := by omega
        have n5 : ¬ ((i : Int) - 1 = (i : Int) + 2) := by omega
        have n6 : ¬ ((i : Int) = (i : Int) + 2) := by omega
        have n7 : ¬ ((i : Int) + 2 = (i : Int) + 1) := by omega
        simp [h1, n1, n2, n3, n4, n5, n6, n7]
      · have n1 : ¬ ((i : Int) - 2 = (i : Int) + 1) := by omega
        have n2 : ¬ ((i : Int) - 1 = (i : Int) + 1) := by omega
        have n3 : ¬ ((i : Int) = (i : Int) + 1) := by omega
        have n4 : ¬ ((i : Int) - 2 = (i : Int) + 2) := by omega
        have n5 : ¬ ((i : Int) - 1 = (i : Int) + 2) := by omega
        have n6 : ¬ ((i : Int) = (i : Int) + 2) := by omega
        have n7 : ¬ ((i : Int) + 2 = (i : Int) + 1) := by omega
        by_cases h2 : atF w ((i : Int) + 1) = 70
        · by_cases h3 : atF w ((i : Int) + 2) = 46 <;> simp [h1, h2, h3, n1, n2, n3, n4, n5, n6, n7]
        · simp [h1, h2, n1, n2, n3, n4, n5, n6, n7]
  · -- a frog
    simp only [h, if_true, if_false, decide_true, Bool.true_and, show ¬ ((70 : UInt8) = 84) from by decide, decide_false, Bool.false_and, Bool.false_or, stepF, otherF] at hc ⊢
    simp only [show ¬ ((-1 : Int) = 0) from by decide, if_false]
    cases frogs with
    | false =>
      have : (kindsF toads false).contains (70 : UInt8) = false := by cases toads <;> decide
      simp only [Bool.not_false, if_true, this]
      split <;> rfl
    | true =>
      have : (kindsF toads true).contains (70 : UInt8) = true := by cases toads <;> decide
      have e1 : (i : Int) + -1 = (i : Int) - 1 := by omega
      have e2 : (i : Int) + 2 * -1 = (i : Int) - 2 := by omega
      simp only [Bool.not_true, Bool.false_eq_true, if_false, this, if_true, five, List.filter_cons, List.filter_nil, hc, e1, e2]
      have n1 : ¬ ((i : Int) - 2 = (i : Int) - 1) := by omega
      have n2 : ¬ ((i : Int) - 1 = (i : Int) - 2) := by omega
      have n3 : ¬ ((i : Int) = (i : Int) - 1) := by omega
      have n4 : ¬ ((i : Int) = (i : Int) - 2) := by omega
      have n5 : ¬ ((i : Int) + 1 = (i : Int) - 1) := by omega
      have n6 : ¬ ((i : Int) + 1 = (i : Int) - 2) := by omega
      have n7 : ¬ ((i : Int) + 2 = (i : Int) - 1) := by omega
      have n8 : ¬ ((i : Int) + 2 = (i : Int) - 2) := by omega
      by_cases h1 : atF w ((i : Int) - 1) = 46
      · simp [h1, n1, n2, n3, n4, n5, n6, n7, n8]
      · by_cases h2 : atF w ((i : Int) - 1) = 84
        · by_cases h3 : atF w ((i : Int) - 2) = 46 <;> simp [h1, h2, h3, n1, n2, n3, n4, n5, n6, n7, n8]
        · simp [h1, h2, n1, n2, n3, n4, n5, n6, n7, n8]
  · -- a gap
    simp only [h, if_false, show ¬ ((46 : UInt8) = 84) from by decide, show ¬ ((46 : UInt8) = 70) from by decide, decide_false, Bool.false_and, Bool.or_false, stepF] at hc ⊢
    simp [five, hc]

theorem all_getD {w : Tx} {p : UInt8 → Bool} (h : w.all p = true) {i : Nat} (hi : i < w.length) : p (w.getD i 0) = true := by
  rw [List.getD_eq_getElem?_getD, List.getElem?_eq_getElem hi, Option.getD_some]
  exact List.all_eq_true.1 h _ (List.getElem_mem hi)

theorem filterMap_toList {α β : Type} (f : α → Option β) (l : List α) : l.filterMap f = l.flatMap fun x => (f x).toList := by
  induction l with
  | nil => rfl
  | cons x l ih => cases h : f x <;> simp [List.filterMap_cons, h, ih]

theorem liMoves_eq {w : Tx} {toads frogs : Bool} (hok : w.all okCh = true) : liMovesF w toads frogs = movesF w (kindsF toads frogs) := by
  unfold liMovesF movesF
  rw [filterMap_toList]
  rw [List.flatMap_def, List.flatMap_def]
  congr 1
  apply List.map_congr_left
  intro i hi
  exact liAt_eq (List.mem_range.1 hi) (all_getD hok (List.mem_range.1 hi))

/-! ### Moves made -/
def madeF (w : Tx) (m : Mv) : Tx := (w.set m.2.toNat (w.getD m.1.toNat 0)).set m.1.toNat 46
def liMakeF (w : Tx) (m : Mv) : Tx := (w.set m.1.toNat 46).set m.2.toNat (w.getD m.1.toNat 0)
theorem madeF_eq {w : Tx} {m : Mv} (h : m.1.toNat ≠ m.2.toNat) : madeF w m = liMakeF w m := by
  unfold madeF liMakeF
  rw [List.set_comm]
  exact h.symm
theorem madeF_len (w : Tx) (m : Mv) : (madeF w m).length = w.length := by simp [madeF]

theorem goalF_spec {w : Tx} {i : Nat} {t : Int} (h : goalF w i = some t) : 0 ≤ t ∧ t < w.length ∧ atF w t = 46 ∧ stepF (w.getD i 0) ≠ 0 ∧ (t = i + stepF (w.getD i 0) ∨ t = i + 2 * stepF (w.getD i 0)) := by
  unfold goalF at h
  simp only [Int.toNat_natCast] at h
  have key : ∀ j : Int, atF w j = 46 → 0 ≤ j ∧ j < w.length := fun j hj => by
    apply Classical.byContradiction
    intro hn
    rw [atF_out hn] at hj
    exact absurd hj (by decide)
  split at h
  · cases h
  · rename_i h0
    split at h
    · rename_i h1
      obtain rfl := Option.some.inj h
      exact ⟨(key _ h1).1, (key _ h1).2, h1, h0, .inl rfl⟩
    · split at h
      · rename_i h1
        obtain rfl := Option.some.inj h
        exact ⟨(key _ h1.2).1, (key _ h1.2).2, h1.2, h0, .inr rfl⟩
      · cases h

theorem movesF_mem {w kinds : Tx} {m : Mv} (h : m ∈ movesF w kinds) : ∃ i : Nat, i < w.length ∧ m.1 = i ∧ goalF w i = some m.2 ∧ kinds.contains (w.getD i 0) = true := by
  unfold movesF at h
  obtain ⟨i, hi, hm⟩ := List.mem_filterMap.1 h
  unfold moveAt at hm
  split at hm
  · rename_i t hg
    split at hm
    · rename_i hk
      obtain rfl := Option.some.inj hm
      exact ⟨i, List.mem_range.1 hi, rfl, hg, hk⟩
    · cases hm
  · cases hm

/-- A move found lies on the line, and leads elsewhere. -/
theorem movesF_in {w kinds : Tx} {m : Mv} (h : m ∈ movesF w kinds) : (0 ≤ m.1 ∧ m.1 < w.length) ∧ (0 ≤ m.2 ∧ m.2 < w.length) ∧ m.1 ≠ m.2 := by
  obtain ⟨i, hi, e, hg, _⟩ := movesF_mem h
  obtain ⟨h1, h2, h3, h4, h5⟩ := goalF_spec hg
  refine ⟨by omega, ⟨h1, h2⟩, ?_⟩
  rw [e]
  rcases h5 with h5 | h5 <;> omega

theorem okCh_made {w : Tx} {m : Mv} (h : w.all okCh = true) (hm : m.1.toNat < w.length) : (madeF w m).all okCh = true := by
  rw [List.all_eq_true] at h ⊢
  intro b hb
  unfold madeF at hb
  rcases List.mem_or_eq_of_mem_set hb with hb | rfl
  · rcases List.mem_or_eq_of_mem_set hb with hb | rfl
    · exact h b hb
    · rw [List.getD_eq_getElem?_getD, List.getElem?_eq_getElem hm, Option.getD_some]
      exact h _ (List.getElem_mem hm)
  · rfl

/-! ### The other side -/
def turnedF (w : Tx) : Tx := w.reverse.map otherF
end Go.Proofs.YtaidpalamhmghaaDoor.X
