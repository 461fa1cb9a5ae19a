/- All plays of a line, counted move by move and layer by layer: the same. No condition. -/
import Derived.Test.YtblihaicbhdbdaaDoorCountF
namespace Go.Proofs.YtblihaicbhdbdaaDoor.X
set_option linter.unusedVariables false
set_option linter.unusedSimpArgs false
def allF (w : Tx) : Nat := if movesF w both = [] then 1 else ((movesF w both).attach.map fun m => allF (madeF w m.1)).sum
termination_by potF w
decreasing_by have := pot_made m.2; omega
theorem allF_eq (w : Tx) : allF w = if movesF w both = [] then 1 else ((succF w).map allF).sum := by
  rw [allF]
  split
  · rfl
  · unfold succF
    rw [List.map_map]
    exact congrArg List.sum (List.attach_map_val (f := fun m => allF (madeF w m)) (l := movesF w both))
theorem allF_pos : ∀ (n : Nat) (w : Tx), potF w = n → 1 ≤ allF w
  | n, w, hn => by
    rw [allF_eq]
    split
    · exact Nat.le_refl _
    · rename_i h
      obtain ⟨m, l, e⟩ := List.exists_cons_of_ne_nil h
      have hm : m ∈ movesF w both := by rw [e]; exact List.mem_cons_self
      have hp := pot_made hm
      have ih := allF_pos (potF (madeF w m)) (madeF w m) rfl
      unfold succF
      rw [e, List.map_cons, List.map_cons, List.sum_cons]
      omega
termination_by n => n
decreasing_by omega
def stuckF (v : Tx) : Bool := (movesF v both).isEmpty
def stN (w : Tx) (n : Nat) : Nat := ((List.range n).map fun k => (endsF w k).countP stuckF).sum
theorem sum_add {α : Type} (f g : α → Nat) : ∀ l : List α, (l.map fun x => f x + g x).sum = (l.map f).sum + (l.map g).sum
  | [] => rfl
  | x :: l => by simp only [List.map_cons, List.sum_cons, sum_add f g l]; omega
theorem sum_zero' {α : Type} : ∀ l : List α, (l.map fun _ => 0).sum = 0
  | [] => rfl
  | x :: l => by simp only [List.map_cons, List.sum_cons, sum_zero' l]
theorem sum_comm {α β : Type} (f : α → β → Nat) : ∀ (l : List α) (r : List β), (l.map fun x => (r.map fun y => f x y).sum).sum = (r.map fun y => (l.map fun x => f x y).sum).sum
  | [], r => by simp [sum_zero']
  | x :: l, r => by
    simp only [List.map_cons, List.sum_cons]
    rw [sum_comm f l r, ← sum_add]
theorem countP_flat (p : Tx → Bool) (f : Tx → List Tx) : ∀ l : List Tx, (l.flatMap f).countP p = (l.map fun x => (f x).countP p).sum
  | [] => rfl
  | x :: l => by rw [List.flatMap_cons, List.countP_append, countP_flat p f l, List.map_cons, List.sum_cons]
theorem stN_succ (w : Tx) (n : Nat) : stN w (n + 1) = (if stuckF w then 1 else 0) + ((succF w).map fun u => stN u n).sum := by
  unfold stN
  rw [List.range_succ_eq_map, List.map_cons, List.sum_cons, List.map_map]
  congr 1
  · show ([w] : List Tx).countP stuckF = _
    rw [List.countP_cons, List.countP_nil]; simp
  · rw [← sum_comm]
    congr 1
    refine List.map_congr_left fun k _ => ?_
    show (endsF w (k + 1)).countP stuckF = _
    rw [endsF_first, countP_flat]
theorem stN_all : ∀ (n : Nat) (w : Tx), potF w < n → stN w n = allF w
  | 0, w, h => absurd h (Nat.not_lt_zero _)
  | n + 1, w, h => by
    rw [stN_succ, allF_eq]
    by_cases hs : movesF w both = []
    · have e1 : stuckF w = true := by unfold stuckF; rw [hs]; rfl
      have e2 : succF w = [] := by unfold succF; rw [hs]; rfl
      rw [if_pos hs, e1, e2]; rfl
    · have e1 : stuckF w = false := by
        unfold stuckF
        cases hm : movesF w both with
        | nil => exact absurd hm hs
        | cons a l => rfl
      rw [if_neg hs, e1]
      simp only [Bool.false_eq_true, if_false, Nat.zero_add]
      congr 1
      refine List.map_congr_left fun u hu => ?_
      obtain ⟨m, hm, rfl⟩ := List.mem_map.1 hu
      exact stN_all n _ (by have := pot_made hm; omega)
/-- A layer's share. -/
def shareF (w : Tx) (k : Nat) : Nat := ((layF w k).map fun v => if stuckF v then numF w k v else 0).sum
theorem share_eq (w : Tx) (k : Nat) : shareF w k = (endsF w k).countP stuckF := by
  have h := sum_group (fun v => if stuckF v then 1 else 0) (layF w k) (sortedT_nodup (lay_sorted w k)) (endsF w k) (fun u hu => endsF_mem.1 hu)
  have e : ∀ l : List Tx, (l.map fun v => if stuckF v then 1 else 0).sum = l.countP stuckF := fun l => by
    induction l with
    | nil => rfl
    | cons x l ih => rw [List.map_cons, List.sum_cons, ih, List.countP_cons]; omega
  rw [e] at h
  rw [h]
  unfold shareF
  congr 1
  refine List.map_congr_left fun v _ => ?_
  show _ = (endsF w k).count v * _
  unfold numF
  split <;> simp
theorem shares_all (w : Tx) : ((List.range (depthF w + 1)).map (shareF w)).sum = allF w := by
  have h1 : ∀ n, depthF w < n → ((List.range n).map (shareF w)).sum = ((List.range (depthF w + 1)).map (shareF w)).sum := fun n => by
    induction n with
    | zero => intro h; omega
    | succ n ih =>
      intro h
      by_cases e : depthF w = n
      · rw [e]
      · rw [List.range_succ, List.map_append, List.sum_append, ih (by omega)]
        have hz : layF w n = [] := by
          refine Classical.byContradiction fun hne => ?_
          have := depth_iff.1 hne
          omega
        have : shareF w n = 0 := by unfold shareF; rw [hz]; rfl
        simp [this]
  rw [← h1 (potF w + 1) (by have := depth_pot w; omega), ← stN_all (potF w + 1) w (Nat.lt_succ_self _)]
  unfold stN
  congr 1
  exact List.map_congr_left fun k _ => share_eq w k
end Go.Proofs.YtblihaicbhdbdaaDoor.X
