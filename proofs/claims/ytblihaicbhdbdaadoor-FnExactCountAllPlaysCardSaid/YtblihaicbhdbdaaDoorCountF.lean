/- How many plays lead to a line: layer by layer, and from the line on. No condition. -/
import Derived.Test.YtblihaicbhdbdaaDoorReachF
import Derived.Test.YtblihaicbhdbdaaDoorSwapF
namespace Go.Proofs.YtblihaicbhdbdaaDoor.X
set_option linter.unusedVariables false
set_option linter.unusedSimpArgs false

/-- The lines behind so many moves, one for each play. -/
def endsF (w : Tx) : Nat → List Tx
  | 0 => [w]
  | k + 1 => (endsF w k).flatMap succF
theorem flatMap_flatMap' {α : Type} (f : α → List α) (g : α → List α) : ∀ (l : List α), (l.flatMap f).flatMap g = l.flatMap fun x => (f x).flatMap g
  | [] => rfl
  | x :: l => by rw [List.flatMap_cons, List.flatMap_append, List.flatMap_cons, flatMap_flatMap' f g l]
theorem endsF_first (w : Tx) : ∀ k, endsF w (k + 1) = (succF w).flatMap fun v => endsF v k
  | 0 => by
    show [w].flatMap succF = (succF w).flatMap fun v => [v]
    rw [List.flatMap_cons, List.flatMap_nil, List.append_nil]
    induction succF w with
    | nil => rfl
    | cons a l ih => rw [List.flatMap_cons, ← ih]; rfl
  | k + 1 => by
    show (endsF w (k + 1)).flatMap succF = _
    rw [endsF_first w k, flatMap_flatMap']
    rfl
theorem endsF_mem {w : Tx} : ∀ {k : Nat} {v : Tx}, v ∈ endsF w k ↔ v ∈ layF w k
  | 0, v => by rw [lay_mem]; simp [endsF, Reach]
  | k + 1, v => by
    rw [lay_mem]
    simp only [endsF, List.mem_flatMap, succF, List.mem_map, Reach]
    constructor
    · rintro ⟨u, hu, m, hm, rfl⟩
      exact ⟨u, lay_mem.1 (endsF_mem.1 hu), m, hm, rfl⟩
    · rintro ⟨u, hu, m, hm, rfl⟩
      exact ⟨u, endsF_mem.2 (lay_mem.2 hu), m, hm, rfl⟩
def numF (w : Tx) (k : Nat) (v : Tx) : Nat := (endsF w k).count v
theorem numF_none {w v : Tx} {k : Nat} (h : v ∉ layF w k) : numF w k v = 0 := List.count_eq_zero.2 fun hm => h (endsF_mem.1 hm)

/-! ### Plays to a line -/
theorem playsF_low (g : Tx) : ∀ (n : Nat) (w : Tx), potF w = n → potF w < potF g → playsF g w = 0
  | n, w, hn, hlt => by
    rw [playsF_eq, if_neg (fun e => by rw [e] at hlt; omega)]
    rw [List.sum_eq_zero_iff_forall_eq_nat]
    intro x hx
    obtain ⟨m, hm, rfl⟩ := List.mem_map.1 hx
    have hp := pot_made hm
    cases n with
    | zero => omega
    | succ n => exact playsF_low g n (madeF w m) (by omega) (by omega)
theorem count_flat {α : Type} [BEq α] (a : α) (f : Tx → List α) : ∀ (l : List Tx), (l.flatMap f).count a = (l.map fun x => (f x).count a).sum
  | [] => rfl
  | x :: l => by rw [List.flatMap_cons, List.count_append, count_flat a f l, List.map_cons, List.sum_cons]
theorem playsF_num (g : Tx) : ∀ (k : Nat) (w : Tx), potF w = potF g + k → playsF g w = numF w k g
  | 0, w, h => by
    by_cases e : w = g
    · subst e; rw [playsF_self]; simp [numF, endsF]
    · rw [playsF_eq, if_neg e]
      have : (endsF w 0).count g = 0 := by
        show List.count g [w] = 0
        rw [List.count_cons, List.count_nil]; simp [e]
      unfold numF
      rw [this, List.sum_eq_zero_iff_forall_eq_nat]
      intro x hx
      obtain ⟨m, hm, rfl⟩ := List.mem_map.1 hx
      have hp := pot_made hm
      exact playsF_low g _ (madeF w m) rfl (by omega)
  | k + 1, w, h => by
    have e : w ≠ g := fun e => by rw [e] at h; omega
    unfold numF
    rw [playsF_eq, if_neg e, endsF_first, count_flat]
    unfold succF
    rw [List.map_map]
    congr 1
    refine List.map_congr_left fun m hm => ?_
    have hp := pot_made hm
    exact playsF_num g k (madeF w m) (by omega)
theorem plays_at {w v : Tx} {k : Nat} (h : v ∈ layF w k) : playsF v w = numF w k v := playsF_num v k w (by have := reach_pot (lay_mem.1 h); omega)
theorem plays_none {w v : Tx} (h : ∀ k, v ∉ layF w k) : playsF v w = 0 := by
  by_cases hlt : potF w < potF v
  · exact playsF_low v _ w rfl hlt
  · rw [playsF_num v (potF w - potF v) w (by omega), numF_none (h _)]

/-! ### From layer to layer -/
theorem sum_group (f : Tx → Nat) (d : List Tx) (hd : d.Nodup) : ∀ (l : List Tx), (∀ u ∈ l, u ∈ d) → (l.map f).sum = (d.map fun v => l.count v * f v).sum
  | [], _ => by
    have : (d.map fun v => List.count v ([] : List Tx) * f v).sum = 0 := by
      rw [List.sum_eq_zero_iff_forall_eq_nat]
      intro x hx
      obtain ⟨v, _, rfl⟩ := List.mem_map.1 hx
      simp
    rw [this]; rfl
  | a :: l, h => by
    have ih := sum_group f d hd l fun u hu => h u (List.mem_cons_of_mem _ hu)
    rw [List.map_cons, List.sum_cons, ih]
    have ha := h a List.mem_cons_self
    clear ih h
    have key : ∀ (d : List Tx), d.Nodup → (d.map fun v => (a :: l).count v * f v).sum = (if a ∈ d then f a else 0) + (d.map fun v => l.count v * f v).sum := by
      intro d
      induction d with
      | nil => intro _; rfl
      | cons b d ih =>
        intro hn
        rw [List.nodup_cons] at hn
        rw [List.map_cons, List.sum_cons, ih hn.2, List.map_cons, List.sum_cons, List.count_cons]
        by_cases e : a = b
        · subst e
          rw [if_neg hn.1, if_pos List.mem_cons_self]
          simp [Nat.succ_mul]; omega
        · have e2 : (a == b) = false := by simp [e]
          rw [e2]
          have : (a ∈ b :: d) ↔ a ∈ d := by simp [e]
          by_cases hm : a ∈ d
          · rw [if_pos hm, if_pos (this.2 hm)]; simp; omega
          · rw [if_neg hm, if_neg (fun h => hm (this.1 h))]; simp
    rw [key d hd, if_pos ha]
theorem numF_succ (w : Tx) (k : Nat) (x : Tx) : numF w (k + 1) x = ((layF w k).map fun v => numF w k v * (succF v).count x).sum := by
  show ((endsF w k).flatMap succF).count x = _
  rw [count_flat]
  exact sum_group (fun v => (succF v).count x) (layF w k) (sortedT_nodup (lay_sorted w k)) (endsF w k) fun u hu => endsF_mem.1 hu
/-- What the lines so far and the moves so far of the next one add up to. -/
def sumI (c : Tx → Nat) (ks : List Tx) (i : Nat) (x : Tx) : Nat := ((ks.take i).map fun v => c v * (succF v).count x).sum
def sumJ (c : Tx → Nat) (ks : List Tx) (i : Nat) (v : Tx) (j : Nat) (x : Tx) : Nat := sumI c ks i x + c v * ((succF v).take j).count x
theorem sumI_zero (c : Tx → Nat) (ks : List Tx) (x : Tx) : sumI c ks 0 x = 0 := rfl
theorem sumJ_zero (c : Tx → Nat) (ks : List Tx) (i : Nat) (v x : Tx) : sumJ c ks i v 0 x = sumI c ks i x := by simp [sumJ]
theorem sumJ_end {c : Tx → Nat} {ks : List Tx} {i : Nat} (h : i < ks.length) {j : Nat} (hj : (succF ks[i]).length ≤ j) (x : Tx) : sumJ c ks i ks[i] j x = sumI c ks (i + 1) x := by
  unfold sumJ sumI
  rw [List.take_succ_eq_append_getElem h, List.map_append, List.sum_append, List.take_of_length_le hj]
  simp
theorem sumJ_hit {c : Tx → Nat} {ks : List Tx} {i : Nat} {v x : Tx} {j : Nat} (h : j < (succF v).length) (e : x = (succF v)[j]) : sumJ c ks i v (j + 1) x = sumJ c ks i v j x + c v := by
  unfold sumJ
  rw [List.take_succ_eq_append_getElem h, List.count_append, ← e]
  simp [Nat.mul_add]; omega
theorem sumJ_miss {c : Tx → Nat} {ks : List Tx} {i : Nat} {v x : Tx} {j : Nat} (h : j < (succF v).length) (e : x ≠ (succF v)[j]) : sumJ c ks i v (j + 1) x = sumJ c ks i v j x := by
  unfold sumJ
  have e2 : ((succF v)[j] == x) = false := by simp; exact fun h => e h.symm
  rw [List.take_succ_eq_append_getElem h, List.count_append, List.count_cons, e2]
  simp
theorem sumI_lay (w : Tx) (k : Nat) (x : Tx) : sumI (numF w k) (layF w k) (layF w k).length x = numF w (k + 1) x := by
  unfold sumI
  rw [List.take_length, numF_succ]
end Go.Proofs.YtblihaicbhdbdaaDoor.X
