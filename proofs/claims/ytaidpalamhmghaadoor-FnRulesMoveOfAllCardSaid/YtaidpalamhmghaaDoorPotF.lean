/- Every move lowers the number of pairs out of order by just one; the signs of a line stay the same. No condition. -/
import Derived.Test.YtaidpalamhmghaaDoorWayF
namespace Go.Proofs.YtaidpalamhmghaaDoor.X
set_option linter.unusedVariables false
set_option linter.unusedSimpArgs false

/-! ### What a move is -/
/-- How a line looks around a move. -/
inductive Shape (w : Tx) (m : Mv) (w' : Tx) : Prop where
  | tslide (u v : Tx) (h : w = u ++ 84 :: 46 :: v) (h' : w' = u ++ 46 :: 84 :: v) (h1 : m.1 = u.length) (h2 : m.2 = u.length + 1)
  | tjump (u v : Tx) (h : w = u ++ 84 :: 70 :: 46 :: v) (h' : w' = u ++ 46 :: 70 :: 84 :: v) (h1 : m.1 = u.length) (h2 : m.2 = u.length + 2)
  | fslide (u v : Tx) (h : w = u ++ 46 :: 70 :: v) (h' : w' = u ++ 70 :: 46 :: v) (h1 : m.1 = u.length + 1) (h2 : m.2 = u.length)
  | fjump (u v : Tx) (h : w = u ++ 46 :: 84 :: 70 :: v) (h' : w' = u ++ 70 :: 84 :: 46 :: v) (h1 : m.1 = u.length + 2) (h2 : m.2 = u.length)

theorem split_at {w : Tx} {i : Nat} (h : i < w.length) : ∃ u v, w = u ++ w.getD i 0 :: v ∧ u.length = i := by
  refine ⟨w.take i, w.drop (i + 1), ?_, by simp; omega⟩
  rw [List.getD_eq_getElem?_getD, List.getElem?_eq_getElem h, Option.getD_some]
  simp
theorem split_at2 {w : Tx} {i : Nat} (h : i + 1 < w.length) : ∃ u v, w = u ++ w.getD i 0 :: w.getD (i + 1) 0 :: v ∧ u.length = i := by
  refine ⟨w.take i, w.drop (i + 2), ?_, by simp; omega⟩
  rw [List.getD_eq_getElem?_getD, List.getD_eq_getElem?_getD, List.getElem?_eq_getElem h, List.getElem?_eq_getElem (by omega), Option.getD_some, Option.getD_some]
  simp
theorem split_at3 {w : Tx} {i : Nat} (h : i + 2 < w.length) : ∃ u v, w = u ++ w.getD i 0 :: w.getD (i + 1) 0 :: w.getD (i + 2) 0 :: v ∧ u.length = i := by
  refine ⟨w.take i, w.drop (i + 3), ?_, by simp; omega⟩
  rw [List.getD_eq_getElem?_getD, List.getD_eq_getElem?_getD, List.getD_eq_getElem?_getD, List.getElem?_eq_getElem h, List.getElem?_eq_getElem (by omega), List.getElem?_eq_getElem (by omega), Option.getD_some, Option.getD_some, Option.getD_some]
  simp
theorem getD_app0 (u : Tx) (a : UInt8) (v : Tx) : (u ++ a :: v).getD u.length 0 = a := by simp
theorem getD_app1 (u : Tx) (a b : UInt8) (v : Tx) : (u ++ a :: b :: v).getD (u.length + 1) 0 = b := by simp
theorem getD_app2 (u : Tx) (a b c : UInt8) (v : Tx) : (u ++ a :: b :: c :: v).getD (u.length + 2) 0 = c := by simp
theorem set_app0 (u : Tx) (a x : UInt8) (v : Tx) : (u ++ a :: v).set u.length x = u ++ x :: v := by
  rw [List.set_append_right _ _ (Nat.le_refl _)]; simp
theorem set_app1 (u : Tx) (a b x : UInt8) (v : Tx) : (u ++ a :: b :: v).set (u.length + 1) x = u ++ a :: x :: v := by
  rw [List.set_append_right _ _ (by omega)]; simp
theorem set_app2 (u : Tx) (a b c x : UInt8) (v : Tx) : (u ++ a :: b :: c :: v).set (u.length + 2) x = u ++ a :: b :: x :: v := by
  rw [List.set_append_right _ _ (by omega)]; simp

theorem stepF_three (b : UInt8) : (b = 84 ∧ stepF b = 1 ∧ otherF b = 70) ∨ (b = 70 ∧ stepF b = -1 ∧ otherF b = 84) ∨ stepF b = 0 := by
  unfold stepF otherF
  by_cases h1 : b = 84
  · exact .inl ⟨h1, by simp [h1], by simp [h1]⟩
  · by_cases h2 : b = 70
    · subst h2; exact .inr (.inl ⟨rfl, rfl, rfl⟩)
    · exact .inr (.inr (by simp [h1, h2]))
theorem atF_some {w : Tx} {i : Int} {b : UInt8} (hb : b ≠ 0) (h : atF w i = b) : ∃ n : Nat, i = n ∧ n < w.length ∧ w.getD n 0 = b := by
  by_cases hi : 0 ≤ i ∧ i < w.length
  · rw [atF_in hi] at h
    exact ⟨i.toNat, by omega, by omega, h⟩
  · rw [atF_out hi] at h; exact absurd h.symm hb

theorem move_shape {w kinds : Tx} {m : Mv} (h : m ∈ movesF w kinds) : Shape w m (madeF w m) := by
  obtain ⟨i, hi, e, hg, _⟩ := movesF_mem h
  obtain ⟨a, b⟩ := m
  simp only at e hg
  subst e
  unfold goalF at hg
  simp only [Int.toNat_natCast] at hg
  rcases stepF_three (w.getD i 0) with ⟨e, e1, e2⟩ | ⟨e, e1, e2⟩ | e1
  · rw [e1, e2] at hg
    simp only [show ¬ ((1 : Int) = 0) from by decide, if_false] at hg
    split at hg
    · rename_i h1
      simp only [Option.some.injEq] at hg
      obtain ⟨n, hn, hl, hd⟩ := atF_some (by decide) h1
      obtain rfl : n = i + 1 := by omega
      obtain ⟨u, v, hw, hu⟩ := split_at2 hl
      rw [e, hd] at hw
      subst hu
      have hb : b = ((u.length + 1 : Nat) : Int) := by omega
      subst hb
      refine .tslide u v hw ?_ rfl (by simp)
      unfold madeF
      simp only [Int.toNat_natCast]
      rw [hw, getD_app0, set_app1, set_app0]
    · split at hg
      · rename_i h1
        simp only [Option.some.injEq] at hg
        obtain ⟨n, hn, hl, hd⟩ := atF_some (by decide) h1.2
        obtain ⟨n', hn', hl', hd'⟩ := atF_some (by decide) h1.1
        obtain rfl : n = i + 2 := by omega
        obtain rfl : n' = i + 1 := by omega
        obtain ⟨u, v, hw, hu⟩ := split_at3 hl
        rw [e, hd, hd'] at hw
        subst hu
        have hb : b = ((u.length + 2 : Nat) : Int) := by omega
        subst hb
        refine .tjump u v hw ?_ rfl (by simp)
        unfold madeF
        simp only [Int.toNat_natCast]
        rw [hw, getD_app0, set_app2, set_app0]
      · cases hg
  · rw [e1, e2] at hg
    simp only [show ¬ ((-1 : Int) = 0) from by decide, if_false] at hg
    split at hg
    · rename_i h1
      simp only [Option.some.injEq] at hg
      obtain ⟨n, hn, hl, hd⟩ := atF_some (by decide) h1
      obtain rfl : i = n + 1 := by omega
      obtain ⟨u, v, hw, hu⟩ := split_at2 hi
      rw [e, hd] at hw
      subst hu
      have hb : b = ((u.length : Nat) : Int) := by omega
      subst hb
      refine .fslide u v hw ?_ (by simp) rfl
      unfold madeF
      simp only [Int.toNat_natCast]
      rw [hw, getD_app1, set_app0, set_app1]
    · split at hg
      · rename_i h1
        simp only [Option.some.injEq] at hg
        obtain ⟨n, hn, hl, hd⟩ := atF_some (by decide) h1.2
        obtain ⟨n', hn', hl', hd'⟩ := atF_some (by decide) h1.1
        obtain rfl : i = n + 2 := by omega
        obtain rfl : n' = n + 1 := by omega
        obtain ⟨u, v, hw, hu⟩ := split_at3 hi
        rw [e, hd, hd'] at hw
        subst hu
        have hb : b = ((u.length : Nat) : Int) := by omega
        subst hb
        refine .fjump u v hw ?_ (by simp) rfl
        unfold madeF
        simp only [Int.toNat_natCast]
        rw [hw, getD_app2, set_app0, set_app2]
      · cases hg
  · rw [e1] at hg; simp at hg

theorem count_made {w kinds : Tx} {m : Mv} (h : m ∈ movesF w kinds) (b : UInt8) : (madeF w m).count b = w.count b := by
  cases move_shape h with
  | tslide u v h h' _ _ => rw [h', h]; simp only [List.count_append, List.count_cons]; omega
  | tjump u v h h' _ _ => rw [h', h]; simp only [List.count_append, List.count_cons]; omega
  | fslide u v h h' _ _ => rw [h', h]; simp only [List.count_append, List.count_cons]; omega
  | fjump u v h h' _ _ => rw [h', h]; simp only [List.count_append, List.count_cons]; omega

/-! ### Pairs out of order -/
def rk (b : UInt8) : Nat := if b = 84 then 2 else if b = 46 then 1 else 0
def lessN (a : UInt8) (w : Tx) : Nat := w.countP fun d => decide (rk d < rk a)
def potF : Tx → Nat
  | [] => 0
  | a :: w => lessN a w + potF w
def crF : Tx → Tx → Nat
  | [], _ => 0
  | a :: u, w => lessN a w + crF u w
theorem lessN_app (a : UInt8) (u v : Tx) : lessN a (u ++ v) = lessN a u + lessN a v := by simp [lessN]
theorem lessN_cons (a b : UInt8) (v : Tx) : lessN a (b :: v) = lessN a v + if rk b < rk a then 1 else 0 := by simp [lessN, List.countP_cons]
theorem potF_app : ∀ (u v : Tx), potF (u ++ v) = potF u + potF v + crF u v
  | [], v => by simp [potF, crF]
  | a :: u, v => by simp only [List.cons_append, potF, crF, lessN_app, potF_app u v]; omega
theorem crF_swap2 (a b : UInt8) (v : Tx) : ∀ u, crF u (a :: b :: v) = crF u (b :: a :: v)
  | [] => rfl
  | c :: u => by simp only [crF, lessN_cons, crF_swap2 a b v u]; omega
theorem crF_swap3 (a b c : UInt8) (v : Tx) : ∀ u, crF u (a :: b :: c :: v) = crF u (c :: b :: a :: v)
  | [] => rfl
  | d :: u => by simp only [crF, lessN_cons, crF_swap3 a b c v u]; omega
theorem pot_made {w kinds : Tx} {m : Mv} (h : m ∈ movesF w kinds) : potF w = potF (madeF w m) + 1 := by
  have r1 : rk 84 = 2 := rfl
  have r2 : rk 46 = 1 := rfl
  have r3 : rk 70 = 0 := rfl
  cases move_shape h with
  | tslide u v h h' _ _ => rw [h', h, potF_app, potF_app, crF_swap2]; simp only [potF, lessN_cons, r1, r2, r3]; simp; omega
  | tjump u v h h' _ _ => rw [h', h, potF_app, potF_app, crF_swap3]; simp only [potF, lessN_cons, r1, r2, r3]; simp; omega
  | fslide u v h h' _ _ => rw [h', h, potF_app, potF_app, crF_swap2]; simp only [potF, lessN_cons, r1, r2, r3]; simp; omega
  | fjump u v h h' _ _ => rw [h', h, potF_app, potF_app, crF_swap3]; simp only [potF, lessN_cons, r1, r2, r3]; simp; omega

theorem lessN_le : ∀ (w : Tx), lessN 84 w ≤ w.length - w.count 84 ∧ w.count 84 ≤ w.length ∧ lessN 46 w ≤ w.length - w.count 84 - w.count 46 ∧ w.count 84 + w.count 46 ≤ w.length ∧ ∀ a, a ≠ 84 → a ≠ 46 → lessN a w = 0
  | [] => by simp [lessN]
  | b :: w => by
    obtain ⟨h1, h2, h3, h4, h5⟩ := lessN_le w
    have r1 : rk 84 = 2 := rfl
    have r2 : rk 46 = 1 := rfl
    refine ⟨?_, ?_, ?_, ?_, fun a ha hb => ?_⟩
    · simp only [lessN_cons, List.length_cons, List.count_cons, r1]
      by_cases e : b = 84
      · subst e; simp [r1]; omega
      · have : (b == 84) = false := by simp [e]
        rw [this]; simp only [Bool.false_eq_true, if_false]; split <;> omega
    · have := List.count_le_length (a := (84 : UInt8)) (l := b :: w); exact this
    · simp only [lessN_cons, List.length_cons, List.count_cons, r2]
      by_cases e : b = 84
      · subst e; simp [r1]; omega
      · by_cases e2 : b = 46
        · subst e2; simp [r2]; omega
        · have e3 : (b == 84) = false := by simp [e]
          have e4 : (b == 46) = false := by simp [e2]
          rw [e3, e4]; simp only [Bool.false_eq_true, if_false]; split <;> omega
    · simp only [List.length_cons, List.count_cons]
      by_cases e : b = 84
      · subst e; simp; omega
      · have e3 : (b == 84) = false := by simp [e]
        rw [e3]; simp only [Bool.false_eq_true, if_false]; split <;> omega
    · rw [lessN_cons, h5 a ha hb]
      have : rk a = 0 := by simp [rk, ha, hb]
      rw [this]; simp
theorem pot_le : ∀ (w : Tx), potF w ≤ w.count 84 * (w.length - w.count 84) + w.count 46 * (w.length - w.count 84 - w.count 46)
  | [] => by simp [potF]
  | b :: w => by
    have ih := pot_le w
    obtain ⟨h1, h2, h3, h4, h5⟩ := lessN_le w
    simp only [potF, List.length_cons, List.count_cons]
    generalize w.count 84 = t at *
    generalize w.count 46 = g at *
    generalize w.length = n at *
    obtain ⟨f, rfl⟩ : ∃ f, n = t + g + f := ⟨n - t - g, by omega⟩
    rw [show t + g + f - t = g + f by omega, show g + f - g = f by omega] at ih
    by_cases e : b = 84
    · subst e
      simp only [beq_self_eq_true, if_true, show ((84 : UInt8) == 46) = false from rfl, Bool.false_eq_true, if_false, Nat.add_zero]
      rw [show t + g + f + 1 - (t + 1) = g + f by omega, show g + f - g = f by omega, Nat.succ_mul]
      omega
    · by_cases e2 : b = 46
      · subst e2
        simp only [beq_self_eq_true, if_true, show ((46 : UInt8) == 84) = false from rfl, Bool.false_eq_true, if_false, Nat.add_zero]
        rw [show t + g + f + 1 - t = g + f + 1 by omega, show g + f + 1 - (g + 1) = f by omega, Nat.succ_mul, Nat.mul_succ]
        omega
      · have e3 : (b == 84) = false := by simp [e]
        have e4 : (b == 46) = false := by simp [e2]
        rw [e3, e4, h5 b e e2]
        simp only [Bool.false_eq_true, if_false, Nat.add_zero]
        rw [show t + g + f + 1 - t = g + f + 1 by omega, show g + f + 1 - g = f + 1 by omega, Nat.mul_succ, Nat.mul_succ]
        omega

/-! ### How many moves there are -/
theorem moves_le (w kinds : Tx) : (movesF w kinds).length ≤ w.length - w.count 46 := by
  unfold movesF
  rw [List.length_filterMap_eq_countP]
  have h1 : List.countP (fun i => (moveAt w kinds i).isSome) (List.range w.length) ≤ List.countP (fun i => decide (¬ w.getD i 0 = 46)) (List.range w.length) := by
    apply List.countP_mono_left
    intro i hi h
    rw [decide_eq_true_eq]
    intro e
    unfold moveAt goalF at h
    simp only [Int.toNat_natCast] at h
    rw [e, show stepF 46 = 0 from by decide] at h
    simp at h
  refine Nat.le_trans h1 ?_
  have h2 : List.countP (fun i => decide (¬ w.getD i 0 = 46)) (List.range w.length) = w.countP (fun b => decide (¬ b = 46)) := by
    have e : w = (List.range w.length).map fun i => w.getD i 0 := by
      apply List.ext_getElem
      · simp
      · intro i h1 h2
        simp only [List.getElem_map, List.getElem_range]
        rw [List.getD_eq_getElem?_getD, List.getElem?_eq_getElem h1, Option.getD_some]
    conv => rhs; rw [e]
    rw [List.countP_map]; rfl
  rw [h2]
  have h3 := List.length_eq_countP_add_countP (fun b : UInt8 => decide (b = 46)) (l := w)
  have h4 : w.count 46 = w.countP (fun b => decide (b = 46)) := by
    unfold List.count
    apply List.countP_congr
    intro b _
    simp
  have h5 : List.countP (fun b => decide (¬ b = 46)) w = List.countP (fun a => decide ¬(decide (a = 46)) = true) w := by
    apply List.countP_congr
    intro b _
    simp
  omega
theorem moves_gap {w kinds : Tx} (h : 0 < (movesF w kinds).length) : 1 ≤ w.count 46 := by
  obtain ⟨m, hm⟩ := List.exists_mem_of_length_pos h
  cases move_shape hm with
  | tslide u v h h' _ _ => rw [h]; simp; omega
  | tjump u v h h' _ _ => rw [h]; simp; omega
  | fslide u v h h' _ _ => rw [h]; simp; omega
  | fjump u v h h' _ _ => rw [h]; simp; omega

theorem pot8 {w : Tx} (h : w.length ≤ 8) : potF w ≤ 21 := by
  have h1 := pot_le w
  have h2 := List.count_le_length (a := (84 : UInt8)) (l := w)
  obtain ⟨_, _, _, h4, _⟩ := lessN_le w
  generalize w.count 84 = t at *
  generalize w.count 46 = g at *
  generalize w.length = n at *
  have key : ∀ n : Fin 9, ∀ t : Fin 9, ∀ g : Fin 9, t.val + g.val ≤ n.val → t.val * (n.val - t.val) + g.val * (n.val - t.val - g.val) ≤ 21 := by decide +kernel
  have := key ⟨n, by omega⟩ ⟨t, by omega⟩ ⟨g, by omega⟩ h4
  simp only at this
  omega
theorem pot10 {w : Tx} (h : w.length ≤ 10) : potF w ≤ 33 := by
  have h1 := pot_le w
  have h2 := List.count_le_length (a := (84 : UInt8)) (l := w)
  obtain ⟨_, _, _, h4, _⟩ := lessN_le w
  generalize w.count 84 = t at *
  generalize w.count 46 = g at *
  generalize w.length = n at *
  have key : ∀ n : Fin 11, ∀ t : Fin 11, ∀ g : Fin 11, t.val + g.val ≤ n.val → t.val * (n.val - t.val) + g.val * (n.val - t.val - g.val) ≤ 33 := by decide +kernel
  have := key ⟨n, by omega⟩ ⟨t, by omega⟩ ⟨g, by omega⟩ h4
  simp only at this
  omega
end Go.Proofs.YtaidpalamhmghaaDoor.X
