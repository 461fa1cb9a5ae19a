/- Plain facts about moves: the way and the pairs that they shorten, their order, and the other side. No condition. -/
import Derived.Test.YtaidpalamhmghaaDoorPair
namespace Go.Proofs.YtaidpalamhmghaaDoor.X
set_option linter.unusedVariables false
set_option linter.unusedSimpArgs false

/-! ### Pairs -/
theorem prF_84 (r : Tx) (s t : Nat) : prF (84 :: r) s t = prF r s (t + 1) := by simp [prF]
theorem prF_70 (r : Tx) (s t : Nat) : prF (70 :: r) s t = prF r (s + t) t := by simp [prF]
theorem prF_46 (r : Tx) (s t : Nat) : prF (46 :: r) s t = prF r s t := by simp [prF]
theorem prF_el {b : UInt8} (h1 : b ≠ 84) (h2 : b ≠ 70) (r : Tx) (s t : Nat) : prF (b :: r) s t = prF r s t := by simp [prF, h1, h2]
theorem prF_acc : ∀ (w : Tx) (s t : Nat), prF w s t = s + t * w.count 70 + prF w 0 0
  | [], s, t => by simp [prF]
  | b :: r, s, t => by
    by_cases h1 : b = 84
    · subst h1
      rw [prF_84, prF_84, prF_acc r s (t + 1), prF_acc r 0 (0 + 1), List.count_cons]
      simp only [show ((84 : UInt8) == 70) = false from rfl, Bool.false_eq_true, if_false, Nat.add_zero, Nat.succ_mul]
      omega
    · by_cases h2 : b = 70
      · subst h2
        rw [prF_70, prF_70, prF_acc r (s + t) t, List.count_cons]
        simp only [beq_self_eq_true, if_true, Nat.mul_succ, Nat.add_zero]
        omega
      · rw [prF_el h1 h2, prF_el h1 h2, prF_acc r s t, List.count_cons]
        have : (b == 70) = false := by simp [h2]
        rw [this]; simp
theorem prF_app : ∀ (u v : Tx), prF (u ++ v) 0 0 = prF u 0 0 + prF v 0 0 + u.count 84 * v.count 70
  | [], v => by simp [prF]
  | b :: u, v => by
    rw [List.cons_append, List.count_cons]
    by_cases h1 : b = 84
    · subst h1
      rw [prF_84, prF_84, prF_acc (u ++ v), prF_acc u, prF_app u v, List.count_append]
      simp only [beq_self_eq_true, if_true, Nat.succ_mul, Nat.mul_add, Nat.add_zero]
      omega
    · have e1 : (b == 84) = false := by simp [h1]
      rw [e1]
      by_cases h2 : b = 70
      · subst h2
        rw [prF_70, prF_70, prF_app u v]; simp
      · rw [prF_el h1 h2, prF_el h1 h2, prF_app u v]; simp

/-! ### What a move shortens -/
def jmpF (m : Mv) : Bool := decide (¬ m.2 - m.1 = 1 ∧ ¬ m.1 - m.2 = 1)
def frF (m : Mv) : Bool := decide (m.1 < m.2)
theorem made_pairs {w kinds : Tx} {m : Mv} (h : m ∈ movesF w kinds) : prF w 0 0 = prF (madeF w m) 0 0 + (if jmpF m then 1 else 0) := by
  unfold jmpF
  cases move_shape h with
  | tslide u v h h' h1 h2 =>
    rw [h', h, prF_app, prF_app, h1, h2, decide_eq_false (by omega)]
    simp only [prF_84, prF_46, prF_70, List.count_cons]
    simp
  | tjump u v h h' h1 h2 =>
    rw [h', h, prF_app, prF_app, h1, h2, decide_eq_true (by omega)]
    simp only [prF_84, prF_46, prF_70, List.count_cons, if_true]
    rw [prF_acc v (0 + (0 + 1)), prF_acc v 0 (0 + 1)]
    simp; omega
  | fslide u v h h' h1 h2 =>
    rw [h', h, prF_app, prF_app, h1, h2, decide_eq_false (by omega)]
    simp only [prF_84, prF_46, prF_70, List.count_cons]
    simp
  | fjump u v h h' h1 h2 =>
    rw [h', h, prF_app, prF_app, h1, h2, decide_eq_true (by omega)]
    simp only [prF_84, prF_46, prF_70, List.count_cons, if_true]
    rw [prF_acc v (0 + (0 + 1)), prF_acc v (0 + 0) (0 + 1)]
    simp; omega
theorem jmp_two {w kinds : Tx} {m : Mv} (h : m ∈ movesF w kinds) : jmpF m = decide (m.2 - m.1 = 2 ∨ m.1 - m.2 = 2) := by
  unfold jmpF
  cases move_shape h with
  | tslide u v h h' h1 h2 => rw [h1, h2, decide_eq_false (by omega), decide_eq_false (by omega)]
  | tjump u v h h' h1 h2 => rw [h1, h2, decide_eq_true (by omega), decide_eq_true (by omega)]
  | fslide u v h h' h1 h2 => rw [h1, h2, decide_eq_false (by omega), decide_eq_false (by omega)]
  | fjump u v h h' h1 h2 => rw [h1, h2, decide_eq_true (by omega), decide_eq_true (by omega)]

/-! ### Toads' moves and frogs' -/
theorem mem_kinds {w kinds : Tx} {m : Mv} : m ∈ movesF w kinds ↔ ∃ i : Nat, i < w.length ∧ m.1 = i ∧ goalF w i = some m.2 ∧ kinds.contains (w.getD i 0) = true := by
  constructor
  · exact movesF_mem
  · rintro ⟨i, hi, e, hg, hk⟩
    refine List.mem_filterMap.2 ⟨i, List.mem_range.2 hi, ?_⟩
    unfold moveAt
    rw [hg]
    simp only [hk, if_true]
    rw [← e]
theorem goal_step {w : Tx} {i : Nat} {t : Int} (h : goalF w i = some t) : (w.getD i 0 = 84 ∧ (i : Int) < t) ∨ (w.getD i 0 = 70 ∧ t < (i : Int)) := by
  obtain ⟨_, _, _, h4, h5⟩ := goalF_spec h
  rcases stepF_three (w.getD i 0) with ⟨e, e1, _⟩ | ⟨e, e1, _⟩ | e1
  · rw [e1] at h5; exact .inl ⟨e, by omega⟩
  · rw [e1] at h5; exact .inr ⟨e, by omega⟩
  · exact absurd e1 h4
theorem toad_iff {w : Tx} {m : Mv} (h : m ∈ movesF w both) : (m ∈ movesF w [84] ↔ m.1 < m.2) ∧ (m ∈ movesF w [70] ↔ ¬ m.1 < m.2) := by
  obtain ⟨i, hi, e, hg, _⟩ := movesF_mem h
  have hs := goal_step hg
  rw [mem_kinds, mem_kinds]
  constructor
  · constructor
    · rintro ⟨j, _, ej, _, hk⟩
      obtain rfl : j = i := by omega
      rcases hs with ⟨_, h1⟩ | ⟨h0, _⟩
      · omega
      · rw [h0] at hk; exact absurd hk (by decide)
    · intro hlt
      rcases hs with ⟨h0, _⟩ | ⟨_, h1⟩
      · exact ⟨i, hi, e, hg, by rw [h0]; decide⟩
      · omega
  · constructor
    · rintro ⟨j, _, ej, _, hk⟩
      obtain rfl : j = i := by omega
      rcases hs with ⟨h0, _⟩ | ⟨_, h1⟩
      · rw [h0] at hk; exact absurd hk (by decide)
      · omega
    · intro hlt
      rcases hs with ⟨_, h1⟩ | ⟨h0, _⟩
      · omega
      · exact ⟨i, hi, e, hg, by rw [h0]; decide⟩
theorem countP_or {α : Type} (p q r : α → Bool) : ∀ l : List α, (∀ x ∈ l, (if p x then 1 else 0) = (if q x then 1 else 0) + (if r x then 1 else 0 : Nat)) → l.countP p = l.countP q + l.countP r
  | [], _ => rfl
  | x :: l, h => by
    have h1 := h x (List.mem_cons_self ..)
    have h2 := countP_or p q r l fun y hy => h y (List.mem_cons_of_mem _ hy)
    simp only [List.countP_cons]
    omega
theorem moves_sum (w : Tx) : (movesF w both).length = (movesF w [84]).length + (movesF w [70]).length := by
  unfold movesF
  rw [List.length_filterMap_eq_countP, List.length_filterMap_eq_countP, List.length_filterMap_eq_countP]
  apply countP_or
  intro i hi
  unfold moveAt
  cases hg : goalF w i with
  | none => rfl
  | some t =>
    rcases goal_step hg with ⟨e, _⟩ | ⟨e, _⟩
    · simp only [e]; rfl
    · simp only [e]; rfl
/-- Moves in order. -/
def mvLt (a b : Mv) : Prop := a.1 < b.1 ∨ a.1 = b.1 ∧ a.2 < b.2
theorem moves_rise (w kinds : Tx) : (movesF w kinds).Pairwise mvLt := by
  unfold movesF
  refine List.Pairwise.filterMap (moveAt w kinds) ?_ List.pairwise_lt_range
  intro i j hij a ha b hb
  have key : ∀ {i : Nat} {a : Mv}, moveAt w kinds i = some a → a.1 = i := fun {i a} h => by
    unfold moveAt at h
    split at h
    · split at h
      · obtain rfl := Option.some.inj h; rfl
      · cases h
    · cases h
  have h1 := key ha
  have h2 := key hb
  exact .inl (by omega)

/-! ### The other side -/
theorem otherF_other {b : UInt8} : otherF (otherF b) = b := by
  unfold otherF
  by_cases h1 : b = 84
  · subst h1; rfl
  · by_cases h2 : b = 70
    · subst h2; rfl
    · simp [h1, h2]
theorem turned_turned (w : Tx) : turnedF (turnedF w) = w := by
  unfold turnedF
  rw [← List.map_reverse, List.reverse_reverse, List.map_map]
  have : (otherF ∘ otherF) = id := by funext b; exact otherF_other
  rw [this, List.map_id]
theorem turned_len (w : Tx) : (turnedF w).length = w.length := by simp [turnedF]
theorem okCh_other {b : UInt8} (h : okCh b = true) : okCh (otherF b) = true := by
  simp only [okCh, Bool.or_eq_true, decide_eq_true_eq] at h
  rcases h with rfl | rfl | rfl <;> rfl
theorem turned_ok {w : Tx} (h : w.all okCh = true) : (turnedF w).all okCh = true := by
  rw [List.all_eq_true] at h ⊢
  intro b hb
  unfold turnedF at hb
  obtain ⟨c, hc, rfl⟩ := List.mem_map.1 hb
  exact okCh_other (h c (List.mem_reverse.1 hc))
theorem turned_line {w : Tx} {most : Int} (h : lineOf w most = true) : lineOf (turnedF w) most = true := by
  unfold lineOf at h ⊢
  simp only [Bool.and_eq_true] at h ⊢
  rw [turned_len]
  exact ⟨h.1, turned_ok h.2⟩
theorem turned_atF (w : Tx) (i : Int) : atF (turnedF w) ((w.length : Int) - 1 - i) = otherF (atF w i) := by
  by_cases h : 0 ≤ i ∧ i < w.length
  · rw [atF_in h, atF_in (by rw [turned_len]; omega)]
    have e : ((w.length : Int) - 1 - i).toNat = w.length - 1 - i.toNat := by omega
    rw [e]
    unfold turnedF
    have h1 : w.length - 1 - i.toNat < w.length := by omega
    have h2 : i.toNat < w.length := by omega
    rw [List.getD_eq_getElem?_getD, List.getElem?_map, List.getElem?_reverse h1, List.getD_eq_getElem?_getD, show w.length - 1 - (w.length - 1 - i.toNat) = i.toNat by omega, List.getElem?_eq_getElem h2]
    rfl
  · rw [atF_out h, atF_out (by rw [turned_len]; omega)]; rfl
theorem getD_atF {w : Tx} {i : Nat} (h : i < w.length) : w.getD i 0 = atF w i := by rw [atF_in (by omega), Int.toNat_natCast]
theorem stepF_other (b : UInt8) : stepF (otherF b) = - stepF b := by
  unfold stepF otherF
  by_cases h1 : b = 84
  · subst h1; rfl
  · by_cases h2 : b = 70
    · subst h2; rfl
    · simp [h1, h2]
theorem other_gap {b : UInt8} : otherF b = 46 ↔ b = 46 := by
  constructor
  · intro h; have := congrArg otherF h; rw [otherF_other] at this; exact this
  · rintro rfl; rfl
theorem otherF_inj {a b : UInt8} : otherF a = otherF b ↔ a = b := ⟨fun h => by have := congrArg otherF h; rwa [otherF_other, otherF_other] at this, fun h => by rw [h]⟩
theorem goalF_at {w : Tx} {i : Int} (h : 0 ≤ i ∧ i < w.length) : goalF w i = let d := stepF (atF w i)
  if d = 0 then none else if atF w (i + d) = 46 then some (i + d) else
    if atF w (i + d) = otherF (atF w i) ∧ atF w (i + 2 * d) = 46 then some (i + 2 * d) else none := by
  unfold goalF; rw [atF_in h]
theorem goal_turned {w : Tx} {i : Int} (h : 0 ≤ i ∧ i < w.length) : goalF (turnedF w) ((w.length : Int) - 1 - i) = (goalF w i).map fun t => (w.length : Int) - 1 - t := by
  rw [goalF_at h, goalF_at (by rw [turned_len]; omega)]
  simp only [turned_atF, stepF_other]
  generalize hd : stepF (atF w i) = d
  have e1 : (w.length : Int) - 1 - i + -d = (w.length : Int) - 1 - (i + d) := by omega
  have e2 : (w.length : Int) - 1 - i + 2 * -d = (w.length : Int) - 1 - (i + 2 * d) := by omega
  simp only [e1, e2, turned_atF, other_gap, otherF_inj]
  by_cases h0 : d = 0
  · simp [h0]
  · rw [if_neg h0, if_neg (by omega)]
    by_cases c1 : atF w (i + d) = 46
    · rw [if_pos c1, if_pos c1]; rfl
    · rw [if_neg c1, if_neg c1]
      by_cases c2 : atF w (i + d) = otherF (atF w i) ∧ atF w (i + 2 * d) = 46
      · rw [if_pos c2, if_pos c2]; rfl
      · rw [if_neg c2, if_neg c2]; rfl
def mirF (w : Tx) (m : Mv) : Mv := ((w.length : Int) - 1 - m.1, (w.length : Int) - 1 - m.2)
theorem mir_mem {w : Tx} {m : Mv} (h : m ∈ movesF w both) : mirF w m ∈ movesF (turnedF w) both := by
  obtain ⟨i, hi, e, hg, _⟩ := movesF_mem h
  refine canG_mem.1 ?_
  unfold canG mirF
  rw [e, goal_turned (by omega), hg, turned_len]
  simp
  omega
theorem mir_len (w : Tx) : (movesF (turnedF w) both).length = (movesF w both).length := by
  have key : ∀ {w : Tx} {i : Nat}, i < w.length → (moveAt w both i).isSome = (goalF w i).isSome := fun {w i} hi => by
    unfold moveAt
    cases hg : goalF w i with
    | none => rfl
    | some t =>
      rcases goal_step hg with ⟨e, _⟩ | ⟨e, _⟩
      · simp only [e]; rfl
      · simp only [e]; rfl
  have h1 : ∀ w : Tx, (movesF w both).length = (List.range w.length).countP (fun (i : Nat) => (goalF w (i : Int)).isSome) := fun w => by
    unfold movesF
    rw [List.length_filterMap_eq_countP]
    apply List.countP_congr
    intro i hi
    rw [key (List.mem_range.1 hi)]
  have hrev : (List.range w.length).reverse = (List.range w.length).map fun j => w.length - 1 - j := by
    rw [List.range_eq_range', List.reverse_range', ← List.range_eq_range']
    apply List.map_congr_left
    intro j _
    omega
  rw [h1, h1, turned_len, ← List.countP_reverse (l := List.range w.length) (p := fun (i : Nat) => (goalF w (i : Int)).isSome), hrev, List.countP_map]
  apply List.countP_congr
  intro j hj
  have hj := List.mem_range.1 hj
  have h2 := goal_turned (w := w) (i := ((w.length - 1 - j : Nat) : Int)) (by omega)
  rw [show (w.length : Int) - 1 - ((w.length - 1 - j : Nat) : Int) = (j : Int) by omega] at h2
  simp only [Function.comp, h2, Option.isSome_map]

/-! ### The way -/
def wyF (w : Tx) : Nat := potF w + prF w 0 0
theorem lessN_84 : ∀ w : Tx, w.all okCh = true → lessN 84 w + w.count 84 = w.length
  | [], _ => rfl
  | b :: w, h => by
    simp only [List.all_cons, Bool.and_eq_true] at h
    have ih := lessN_84 w h.2
    have hb := h.1
    simp only [okCh, Bool.or_eq_true, decide_eq_true_eq] at hb
    rw [lessN_cons, List.count_cons, List.length_cons]
    rcases hb with rfl | rfl | rfl
    · simp [rk]; omega
    · simp [rk]; omega
    · simp [rk]; omega
theorem lessN_46 : ∀ w : Tx, w.all okCh = true → lessN 46 w = w.count 70
  | [], _ => rfl
  | b :: w, h => by
    simp only [List.all_cons, Bool.and_eq_true] at h
    have ih := lessN_46 w h.2
    have hb := h.1
    simp only [okCh, Bool.or_eq_true, decide_eq_true_eq] at hb
    rw [lessN_cons, List.count_cons, ih]
    rcases hb with rfl | rfl | rfl <;> simp [rk]
theorem lessN_70 : ∀ w : Tx, lessN 70 w = 0
  | [] => rfl
  | b :: w => by rw [lessN_cons, lessN_70 w]; simp [rk]
/-- What the program adds up from cell i on, the next toad's and frog's place being t and f. -/
def wayG : Tx → Int → Int → Int → Int
  | [], _, _, _ => 0
  | b :: r, i, t, f => if b = 84 then t - i + wayG r (i + 1) (t + 1) f else if b = 70 then i - f + wayG r (i + 1) t (f + 1) else wayG r (i + 1) t f
theorem wayG_eq : ∀ (r : Tx) (i t f : Int), r.all okCh = true → t - i = (r.length : Int) - (r.count 84 : Nat) → wayG r i t f = (potF r : Int) + (prF r 0 0 : Nat) + (i - f) * (r.count 70 : Nat)
  | [], i, t, f, _, _ => by simp [wayG, potF, prF]
  | b :: r, i, t, f, h, ht => by
    simp only [List.all_cons, Bool.and_eq_true] at h
    have hb := h.1
    simp only [okCh, Bool.or_eq_true, decide_eq_true_eq] at hb
    rw [List.count_cons, List.length_cons] at ht
    unfold wayG potF
    rw [List.count_cons]
    rcases hb with rfl | rfl | rfl
    · simp only [if_true, beq_self_eq_true, show ((84 : UInt8) == 70) = false from rfl, Bool.false_eq_true, if_false, Nat.add_zero] at ht ⊢
      have hl := lessN_84 r h.2
      rw [wayG_eq r (i + 1) (t + 1) f h.2 (by omega), prF_84, prF_acc r 0 (0 + 1), show i + 1 - f = (i - f) + 1 by omega, Int.add_mul]
      omega
    · simp only [if_true, beq_self_eq_true, show ((70 : UInt8) == 84) = false from rfl, show ¬ ((70 : UInt8) = 84) from by decide, Bool.false_eq_true, if_false, Nat.add_zero] at ht ⊢
      rw [wayG_eq r (i + 1) t (f + 1) h.2 (by omega), prF_70, lessN_70, show i + 1 - (f + 1) = i - f by omega, show ((r.count 70 + 1 : Nat) : Int) = (r.count 70 : Nat) + 1 by omega, Int.mul_add]
      simp only [Nat.zero_add, Nat.add_zero]
      omega
    · simp only [show ((46 : UInt8) == 84) = false from rfl, show ((46 : UInt8) == 70) = false from rfl, show ¬ ((46 : UInt8) = 84) from by decide, show ¬ ((46 : UInt8) = 70) from by decide, Bool.false_eq_true, if_false, Nat.add_zero] at ht ⊢
      rw [wayG_eq r (i + 1) t f h.2 (by omega), prF_46, lessN_46 r h.2, show i + 1 - f = (i - f) + 1 by omega, Int.add_mul]
      omega
theorem wayG_all {w : Tx} (h : w.all okCh = true) : wayG w 0 ((w.length : Int) - (w.count 84 : Nat)) 0 = (wyF w : Nat) := by
  rw [wayG_eq w _ _ _ h (by omega)]; unfold wyF; omega
/-- Frogs' cells less toads' cells. -/
def posS : Tx → Int → Int
  | [], _ => 0
  | b :: r, i => if b = 84 then posS r (i + 1) - i else if b = 70 then posS r (i + 1) + i else posS r (i + 1)
def triI (a : Int) : Nat → Int
  | 0 => 0
  | n + 1 => a + triI (a + 1) n
theorem wayG_pos : ∀ (r : Tx) (i t f : Int), wayG r i t f = posS r i + triI t (r.count 84) - triI f (r.count 70)
  | [], i, t, f => by simp [wayG, posS, triI]
  | b :: r, i, t, f => by
    unfold wayG posS
    rw [List.count_cons, List.count_cons]
    by_cases h1 : b = 84
    · subst h1
      simp only [if_true, beq_self_eq_true, show ((84 : UInt8) == 70) = false from rfl, Bool.false_eq_true, if_false, Nat.add_zero]
      rw [wayG_pos r]; simp only [triI]; omega
    · have e1 : (b == 84) = false := by simp [h1]
      rw [if_neg h1, if_neg h1, e1]
      by_cases h2 : b = 70
      · subst h2
        simp only [if_true, beq_self_eq_true, Bool.false_eq_true, if_false, Nat.add_zero]
        rw [wayG_pos r]; simp only [triI]; omega
      · have e2 : (b == 70) = false := by simp [h2]
        rw [if_neg h2, if_neg h2, e2, wayG_pos r]; simp
theorem count_rep (a b : UInt8) (n : Nat) : (rep [a] n).count b = if a = b then n else 0 := by
  rw [rep_one, List.count_replicate]; simp
theorem last_count (w : Tx) : (lastF w).count 84 = w.count 84 ∧ (lastF w).count 70 = w.count 70 := by
  unfold lastF
  simp only [List.count_append, count_rep]
  simp
theorem last_ok (w : Tx) : (lastF w).all okCh = true := by
  unfold lastF
  simp only [rep_one, List.all_append, List.all_replicate, Bool.and_eq_true]
  simp [okCh]
theorem lessN_rep (a b : UInt8) (n : Nat) : lessN a (List.replicate n b) = if rk b < rk a then n else 0 := by
  unfold lessN; rw [List.countP_replicate]; simp
theorem pot_rep (b : UInt8) : ∀ n, potF (List.replicate n b) = 0
  | 0 => rfl
  | n + 1 => by rw [List.replicate_succ, potF, pot_rep b n, lessN_rep]; simp
theorem cr_rep (b : UInt8) (v : Tx) (h : lessN b v = 0) : ∀ n, crF (List.replicate n b) v = 0
  | 0 => rfl
  | n + 1 => by rw [List.replicate_succ, crF, cr_rep b v h n, h]
theorem cr_app (v : Tx) : ∀ u u' : Tx, crF (u ++ u') v = crF u v + crF u' v
  | [], u' => by simp [crF]
  | a :: u, u' => by simp only [List.cons_append, crF, cr_app v u u']; omega
theorem last_wy (w : Tx) : wyF (lastF w) = 0 := by
  unfold wyF lastF
  simp only [rep_one]
  generalize w.count 70 = f
  generalize w.count 46 = g
  generalize w.count 84 = t
  have hp : ∀ (b : UInt8) (n : Nat), prF (List.replicate n b) 0 0 = 0 := fun b n => by
    induction n with
    | zero => rfl
    | succ n ih =>
      rw [List.replicate_succ]
      by_cases h1 : b = 84
      · subst h1; rw [prF_84, prF_acc, ih, List.count_replicate]; simp
      · by_cases h2 : b = 70
        · subst h2; rw [prF_70]; exact ih
        · rw [prF_el h1 h2, ih]
  rw [potF_app, potF_app, prF_app, prF_app, pot_rep, pot_rep, pot_rep, hp, hp, hp, cr_app, cr_rep _ _ (by rw [lessN_rep]; simp [rk]), cr_rep _ _ (by rw [lessN_rep]; simp [rk]), cr_rep _ _ (by rw [lessN_rep]; simp [rk]), List.count_append, List.count_replicate, List.count_replicate, List.count_replicate]
  simp
theorem posS_last {w : Tx} (h : w.all okCh = true) : posS w 0 - posS (lastF w) 0 = (wyF w : Nat) := by
  have hl := lastF_len w
  have h1 := wayG_all h
  have h2 := wayG_all (last_ok w)
  have hlen : (lastF w).length = w.length := by
    have h3 : ∀ w : Tx, w.all okCh = true → w.count 70 + w.count 46 + w.count 84 = w.length := fun w => by
      induction w with
      | nil => intro _; rfl
      | cons b r ih =>
        intro h
        simp only [List.all_cons, Bool.and_eq_true] at h
        have ih := ih h.2
        have hb := h.1
        simp only [okCh, Bool.or_eq_true, decide_eq_true_eq] at hb
        simp only [List.count_cons, List.length_cons]
        rcases hb with rfl | rfl | rfl
        · simp; omega
        · simp; omega
        · simp; omega
    rw [hl, h3 w h]
  rw [wayG_pos] at h1 h2
  rw [last_wy, hlen, (last_count w).1, (last_count w).2] at h2
  omega
theorem pot_turned : ∀ w : Tx, w.all okCh = true → potF (turnedF w) = potF w
  | [], _ => rfl
  | a :: w, h => by
    simp only [List.all_cons, Bool.and_eq_true] at h
    have ih := pot_turned w h.2
    have e : turnedF (a :: w) = turnedF w ++ [otherF a] := by simp [turnedF]
    have hr : ∀ {b : UInt8}, okCh b = true → rk (otherF b) = 2 - rk b ∧ rk b ≤ 2 := fun {b} hb => by
      simp only [okCh, Bool.or_eq_true, decide_eq_true_eq] at hb
      rcases hb with rfl | rfl | rfl <;> decide
    have hc : ∀ v : Tx, v.all okCh = true → crF (v.reverse.map otherF) [otherF a] = lessN a v := fun v => by
      induction v with
      | nil => intro _; rfl
      | cons b v ihv =>
        intro hv
        simp only [List.all_cons, Bool.and_eq_true] at hv
        rw [List.reverse_cons, List.map_append, cr_app, ihv hv.2, lessN_cons]
        simp only [List.map_cons, List.map_nil, crF, lessN_cons]
        have h1 := hr h.1
        have h2 := hr hv.1
        rw [h1.1, h2.1]
        have e0 : lessN (otherF b) [] = 0 := rfl
        rw [e0]
        by_cases hlt : rk b < rk a
        · rw [if_pos hlt, if_pos (by omega)]
        · rw [if_neg hlt, if_neg (by omega)]
    rw [e, potF_app, ih]
    have := hc w h.2
    unfold turnedF
    rw [this]
    simp only [potF, lessN, List.countP_nil]
    omega
theorem pr_turned : ∀ w : Tx, prF (turnedF w) 0 0 = prF w 0 0
  | [] => rfl
  | a :: w => by
    have ih := pr_turned w
    have e : turnedF (a :: w) = turnedF w ++ [otherF a] := by simp [turnedF]
    have hc : ∀ v : Tx, (turnedF v).count 84 = v.count 70 := fun v => by
      induction v with
      | nil => rfl
      | cons b v ihv =>
        rw [show turnedF (b :: v) = turnedF v ++ [otherF b] by simp [turnedF], List.count_append, ihv, List.count_cons]
        simp only [List.count_cons, List.count_nil]
        by_cases h1 : b = 70
        · subst h1; simp [otherF]
        · have e2 : (b == 70) = false := by simp [h1]
          have e3 : (otherF b == 84) = false := by
            rw [beq_eq_false_iff_ne]
            intro hx
            have := congrArg otherF hx
            rw [otherF_other] at this
            exact h1 this
          rw [e2, e3]; simp
    rw [e, prF_app, ih, hc]
    by_cases h1 : a = 84
    · subst h1
      rw [prF_84, prF_acc w 0 (0 + 1)]
      simp [otherF, prF]; omega
    · by_cases h2 : a = 70
      · subst h2
        rw [prF_70]; simp [otherF, prF]
      · rw [prF_el h1 h2]
        have : otherF a = a := by simp [otherF, h1, h2]
        rw [this, prF_el h1 h2]
        simp [prF, List.count_cons, h2]
theorem wy_turned {w : Tx} (h : w.all okCh = true) : wyF (turnedF w) = wyF w := by
  unfold wyF; rw [pot_turned w h, pr_turned]
theorem made_wy {w kinds : Tx} {m : Mv} (h : m ∈ movesF w kinds) : wyF w = wyF (madeF w m) + (if jmpF m then 2 else 1) := by
  have h1 := made_pairs h
  have h2 := pot_made h
  unfold wyF
  split at h1 <;> rename_i hj <;> simp [hj] <;> omega
theorem wy_le {w : Tx} (h : w.length ≤ 12) (hok : w.all okCh = true) : wyF w ≤ 1000 := by
  have hp : ∀ w : Tx, prF w 0 0 ≤ w.length * w.length := fun w => by
    induction w with
    | nil => simp [prF]
    | cons b r ih =>
      have hc : r.count 70 ≤ r.length := List.count_le_length
      by_cases h1 : b = 84
      · subst h1; rw [prF_84, prF_acc]; simp only [List.length_cons, Nat.succ_mul, Nat.mul_succ]; omega
      · by_cases h2 : b = 70
        · subst h2; rw [prF_70]; simp only [List.length_cons, Nat.succ_mul, Nat.mul_succ, Nat.add_zero]; omega
        · rw [prF_el h1 h2]; simp only [List.length_cons, Nat.succ_mul, Nat.mul_succ]; omega
  have hq : ∀ w : Tx, potF w ≤ w.length * w.length := fun w => by
    induction w with
    | nil => simp [potF]
    | cons b r ih =>
      have hc : lessN b r ≤ r.length := List.countP_le_length
      simp only [potF, List.length_cons, Nat.succ_mul, Nat.mul_succ]; omega
  have h1 := hp w
  have h2 := hq w
  have h3 : w.length * w.length ≤ 12 * 12 := Nat.mul_le_mul h h
  unfold wyF; omega
end Go.Proofs.YtaidpalamhmghaaDoor.X
