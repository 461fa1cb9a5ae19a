/- Words of moves on lines with one gap: the first word that leads to a line, and the first of the longest ones. No condition. -/
import Derived.Test.YtblihaicbhdbdaaDoorCountF
namespace Go.Proofs.YtblihaicbhdbdaaDoor.X
set_option linter.unusedVariables false
set_option linter.unusedSimpArgs false

/-! ### One gap: at most one move of each kind -/
theorem gap_unique {w : Tx} (h : w.count 46 = 1) {p q : Nat} (hp : p < w.length) (hq : q < w.length) (h1 : w.getD p 0 = 46) (h2 : w.getD q 0 = 46) : p = q := by
  apply Classical.byContradiction
  intro hne
  have key : ∀ (p q : Nat), p < q → q < w.length → w.getD p 0 = 46 → w.getD q 0 = 46 → False := by
    intro p q hpq hq h1 h2
    obtain ⟨u, v, hw, hu⟩ := split_at (w := w) (i := p) (by omega)
    rw [h1] at hw
    have hc := h
    rw [hw, List.count_append, List.count_cons_self] at hc
    have hv : v.count 46 = 0 := by omega
    rw [List.count_eq_zero] at hv
    apply hv
    have : w[q]? = some 46 := by
      rw [List.getElem?_eq_getElem hq]
      rw [List.getD_eq_getElem?_getD, List.getElem?_eq_getElem hq, Option.getD_some] at h2
      rw [h2]
    rw [hw, List.getElem?_append_right (by omega)] at this
    obtain ⟨d, hd⟩ : ∃ d, q - u.length = d + 1 := ⟨q - u.length - 1, by omega⟩
    rw [hd, List.getElem?_cons_succ] at this
    exact List.mem_of_getElem? this
  rcases Nat.lt_trichotomy p q with hlt | e | hlt
  · exact key p q hlt hq h1 h2
  · exact hne e
  · exact key q p hlt hp h2 h1
theorem kind_of {w : Tx} {k : UInt8} {m : Mv} (h : m ∈ movesF w [k]) : w.getD m.1.toNat 0 = k := by
  obtain ⟨i, _, e, _, hc⟩ := movesF_mem h
  rw [e, Int.toNat_natCast]
  simpa using hc
theorem moves_sorted (w kinds : Tx) : (movesF w kinds).Pairwise fun m m' => m.1 < m'.1 := by
  unfold movesF
  rw [List.pairwise_filterMap]
  refine List.pairwise_lt_range.imp ?_
  intro a a' hlt b hb b' hb'
  have key : ∀ {i : Nat} {m : Mv}, moveAt w kinds i = some m → m.1 = i := by
    intro i m hm
    unfold moveAt at hm
    split at hm
    · split at hm
      · obtain rfl := Option.some.inj hm; rfl
      · cases hm
    · cases hm
  rw [key hb, key hb']; omega
theorem one_same {w : Tx} {k : UInt8} (hg : w.count 46 = 1) {m m' : Mv} (h : m ∈ movesF w [k]) (h' : m' ∈ movesF w [k]) : m.1 = m'.1 := by
  have hk := kind_of h
  have hk' := kind_of h'
  have gap : ∀ (u : Tx) (n : Nat), n < w.length → w.getD n 0 = 46 → ∀ n', n' < w.length → w.getD n' 0 = 46 → n = n' := fun _ n h1 h2 n' h3 h4 => gap_unique hg h1 h3 h2 h4
  cases move_shape h with
  | tslide u v e _ e1 _ =>
    have p1 : w.getD u.length 0 = 84 := by rw [e, getD_app0]
    have p2 : w.getD (u.length + 1) 0 = 46 := by rw [e, getD_app1]
    have pl : u.length + 1 < w.length := by rw [e]; simp
    rw [e1, Int.toNat_natCast, p1] at hk
    cases move_shape h' with
    | tslide u' v' e' _ e1' _ =>
      have q2 : w.getD (u'.length + 1) 0 = 46 := by rw [e', getD_app1]
      have ql : u'.length + 1 < w.length := by rw [e']; simp
      have := gap_unique hg pl ql p2 q2; omega
    | tjump u' v' e' _ e1' _ =>
      have q1 : w.getD (u'.length + 1) 0 = 70 := by rw [e', getD_app1]
      have q2 : w.getD (u'.length + 2) 0 = 46 := by rw [e', getD_app2]
      have ql : u'.length + 2 < w.length := by rw [e']; simp
      have := gap_unique hg pl ql p2 q2
      rw [show u.length = u'.length + 1 by omega, q1] at p1
      exact absurd p1 (by decide)
    | fslide u' v' e' _ e1' _ =>
      have q1 : w.getD (u'.length + 1) 0 = 70 := by rw [e', getD_app1]
      rw [e1', show ((u'.length : Int) + 1).toNat = u'.length + 1 by omega, q1, ← hk] at hk'
      exact absurd hk' (by decide)
    | fjump u' v' e' _ e1' _ =>
      have q1 : w.getD (u'.length + 2) 0 = 70 := by rw [e', getD_app2]
      rw [e1', show ((u'.length : Int) + 2).toNat = u'.length + 2 by omega, q1, ← hk] at hk'
      exact absurd hk' (by decide)
  | tjump u v e _ e1 _ =>
    have p1 : w.getD u.length 0 = 84 := by rw [e, getD_app0]
    have p3 : w.getD (u.length + 1) 0 = 70 := by rw [e, getD_app1]
    have p2 : w.getD (u.length + 2) 0 = 46 := by rw [e, getD_app2]
    have pl : u.length + 2 < w.length := by rw [e]; simp
    rw [e1, Int.toNat_natCast, p1] at hk
    cases move_shape h' with
    | tslide u' v' e' _ e1' _ =>
      have q1 : w.getD u'.length 0 = 84 := by rw [e', getD_app0]
      have q2 : w.getD (u'.length + 1) 0 = 46 := by rw [e', getD_app1]
      have ql : u'.length + 1 < w.length := by rw [e']; simp
      have := gap_unique hg pl ql p2 q2
      rw [show u'.length = u.length + 1 by omega, p3] at q1
      exact absurd q1 (by decide)
    | tjump u' v' e' _ e1' _ =>
      have q2 : w.getD (u'.length + 2) 0 = 46 := by rw [e', getD_app2]
      have ql : u'.length + 2 < w.length := by rw [e']; simp
      have := gap_unique hg pl ql p2 q2; omega
    | fslide u' v' e' _ e1' _ =>
      have q1 : w.getD (u'.length + 1) 0 = 70 := by rw [e', getD_app1]
      rw [e1', show ((u'.length : Int) + 1).toNat = u'.length + 1 by omega, q1, ← hk] at hk'
      exact absurd hk' (by decide)
    | fjump u' v' e' _ e1' _ =>
      have q1 : w.getD (u'.length + 2) 0 = 70 := by rw [e', getD_app2]
      rw [e1', show ((u'.length : Int) + 2).toNat = u'.length + 2 by omega, q1, ← hk] at hk'
      exact absurd hk' (by decide)
  | fslide u v e _ e1 _ =>
    have p1 : w.getD (u.length + 1) 0 = 70 := by rw [e, getD_app1]
    have p2 : w.getD u.length 0 = 46 := by rw [e, getD_app0]
    have pl : u.length < w.length := by rw [e]; simp
    rw [e1, show ((u.length : Int) + 1).toNat = u.length + 1 by omega, p1] at hk
    cases move_shape h' with
    | tslide u' v' e' _ e1' _ =>
      have q1 : w.getD u'.length 0 = 84 := by rw [e', getD_app0]
      rw [e1', Int.toNat_natCast, q1, ← hk] at hk'
      exact absurd hk' (by decide)
    | tjump u' v' e' _ e1' _ =>
      have q1 : w.getD u'.length 0 = 84 := by rw [e', getD_app0]
      rw [e1', Int.toNat_natCast, q1, ← hk] at hk'
      exact absurd hk' (by decide)
    | fslide u' v' e' _ e1' _ =>
      have q2 : w.getD u'.length 0 = 46 := by rw [e', getD_app0]
      have ql : u'.length < w.length := by rw [e']; simp
      have := gap_unique hg pl ql p2 q2; omega
    | fjump u' v' e' _ e1' _ =>
      have q1 : w.getD (u'.length + 1) 0 = 84 := by rw [e', getD_app1]
      have q2 : w.getD u'.length 0 = 46 := by rw [e', getD_app0]
      have ql : u'.length < w.length := by rw [e']; simp
      have := gap_unique hg pl ql p2 q2
      rw [show u.length + 1 = u'.length + 1 by omega, q1] at p1
      exact absurd p1 (by decide)
  | fjump u v e _ e1 _ =>
    have p1 : w.getD (u.length + 2) 0 = 70 := by rw [e, getD_app2]
    have p3 : w.getD (u.length + 1) 0 = 84 := by rw [e, getD_app1]
    have p2 : w.getD u.length 0 = 46 := by rw [e, getD_app0]
    have pl : u.length < w.length := by rw [e]; simp
    rw [e1, show ((u.length : Int) + 2).toNat = u.length + 2 by omega, p1] at hk
    cases move_shape h' with
    | tslide u' v' e' _ e1' _ =>
      have q1 : w.getD u'.length 0 = 84 := by rw [e', getD_app0]
      rw [e1', Int.toNat_natCast, q1, ← hk] at hk'
      exact absurd hk' (by decide)
    | tjump u' v' e' _ e1' _ =>
      have q1 : w.getD u'.length 0 = 84 := by rw [e', getD_app0]
      rw [e1', Int.toNat_natCast, q1, ← hk] at hk'
      exact absurd hk' (by decide)
    | fslide u' v' e' _ e1' _ =>
      have q1 : w.getD (u'.length + 1) 0 = 70 := by rw [e', getD_app1]
      have q2 : w.getD u'.length 0 = 46 := by rw [e', getD_app0]
      have ql : u'.length < w.length := by rw [e']; simp
      have := gap_unique hg pl ql p2 q2
      rw [show u.length + 1 = u'.length + 1 by omega, q1] at p3
      exact absurd p3 (by decide)
    | fjump u' v' e' _ e1' _ =>
      have q2 : w.getD u'.length 0 = 46 := by rw [e', getD_app0]
      have ql : u'.length < w.length := by rw [e']; simp
      have := gap_unique hg pl ql p2 q2; omega
theorem one_kind {w : Tx} (k : UInt8) (hg : w.count 46 = 1) : movesF w [k] = [] ∨ ∃ m, movesF w [k] = [m] := by
  have hs := moves_sorted w [k]
  have ho := fun m m' h h' => one_same (k := k) hg (m := m) (m' := m') h h'
  generalize movesF w [k] = l at *
  match l with
  | [] => exact .inl rfl
  | [m] => exact .inr ⟨m, rfl⟩
  | a :: b :: l =>
    have h1 := (List.pairwise_cons.1 hs).1 b (by simp)
    have h2 := ho a b (by simp) (by simp)
    omega
/-- The moves as the words try them: frogs' first. -/
def woL (w : Tx) : List Mv := movesF w [70] ++ movesF w [84]
theorem moves_kind {w : Tx} {m : Mv} {kinds kinds' : Tx} (h : m ∈ movesF w kinds) (hk : kinds'.contains (w.getD m.1.toNat 0) = true) : m ∈ movesF w kinds' := by
  unfold movesF at h ⊢
  obtain ⟨i, hi, hm⟩ := List.mem_filterMap.1 h
  refine List.mem_filterMap.2 ⟨i, hi, ?_⟩
  unfold moveAt at hm ⊢
  split at hm
  · rename_i t hg
    split at hm
    · obtain rfl := Option.some.inj hm
      rw [Int.toNat_natCast] at hk
      simp only [hg, hk, if_true]
    · cases hm
  · cases hm
theorem woL_mem {w : Tx} {m : Mv} : m ∈ woL w ↔ m ∈ movesF w both := by
  unfold woL
  rw [List.mem_append]
  constructor
  · rintro (h | h)
    · exact moves_kind h (by rw [kind_of h]; rfl)
    · exact moves_kind h (by rw [kind_of h]; rfl)
  · intro h
    obtain ⟨i, _, e, _, hc⟩ := movesF_mem h
    have hi : m.1.toNat = i := by rw [e]; rfl
    rw [← hi] at hc
    have : w.getD m.1.toNat 0 = 84 ∨ w.getD m.1.toNat 0 = 70 := by simpa using hc
    rcases this with h1 | h1
    · exact .inr (moves_kind h (by rw [h1]; rfl))
    · exact .inl (moves_kind h (by rw [h1]; rfl))
theorem woL_len {w : Tx} (hg : w.count 46 = 1) : (woL w).length ≤ 2 := by
  unfold woL
  rcases one_kind 70 hg with h | ⟨a, h⟩ <;> rcases one_kind 84 hg with h' | ⟨b, h'⟩ <;> rw [h, h'] <;> simp
theorem both_len {w : Tx} (hg : w.count 46 = 1) : (movesF w both).length ≤ 2 := by
  have hs := moves_sorted w both
  have hm : ∀ m ∈ movesF w both, m ∈ woL w := fun m hm => woL_mem.2 hm
  have hl := woL_len hg
  generalize movesF w both = l at *
  generalize woL w = d at *
  match l, d with
  | [], _ => simp
  | [_], _ => simp
  | [_, _], _ => simp
  | x :: y :: z :: l, d =>
    exfalso
    obtain ⟨h1, h2⟩ := List.pairwise_cons.1 hs
    obtain ⟨h3, _⟩ := List.pairwise_cons.1 h2
    have a1 := h1 y (by simp)
    have a2 := h3 z (by simp)
    have m1 := hm x (by simp)
    have m2 := hm y (by simp)
    have m3 := hm z (by simp)
    match d with
    | [] => cases m1
    | [a] =>
      simp only [List.mem_singleton] at m1 m2
      rw [m1, m2] at a1; omega
    | [a, b] =>
      simp only [List.mem_cons, List.not_mem_nil, or_false] at m1 m2 m3
      rcases m1 with m1 | m1 <;> rcases m2 with m2 | m2 <;> rcases m3 with m3 | m3 <;> subst m1 <;> (try subst m2) <;> (try subst m3) <;> omega
    | a :: b :: c :: d => simp at hl
theorem one_made {w : Tx} {kinds : Tx} {m : Mv} (hg : w.count 46 = 1) (h : m ∈ movesF w kinds) : (madeF w m).count 46 = 1 := by rw [count_made h]; exact hg
theorem plays_two (g : Tx) : ∀ (n : Nat) (w : Tx), potF w = n → w.count 46 = 1 → playsF g w ≤ 2 ^ n
  | n, w, hn, hg => by
    rw [playsF_eq]
    split
    · exact Nat.one_le_pow _ _ (by decide)
    · cases n with
      | zero =>
        cases hm : movesF w both with
        | nil => simp
        | cons m l =>
          have := pot_made (w := w) (kinds := both) (m := m) (by rw [hm]; exact List.mem_cons_self)
          omega
      | succ n =>
        have h1 := sum_le_mul (fun m => playsF g (madeF w m)) (2 ^ n) (movesF w both) fun m hm => by
          have := pot_made hm
          exact plays_two g n (madeF w m) (by omega) (one_made hg hm)
        refine Nat.le_trans h1 ?_
        rw [Nat.pow_succ, Nat.mul_comm]
        exact Nat.mul_le_mul_left _ (both_len hg)
theorem wp_one {g w : Tx} (h : w.length ≤ 10) (hg : w.count 46 = 1) : wp g w = (playsF g w : Nat) := wrap_id (by
  have h1 := plays_two g _ w rfl hg
  have h2 : 2 ^ potF w ≤ 2 ^ 33 := Nat.pow_le_pow_right (by decide) (pot10 h)
  omega)

/-! ### The first word to a line -/
def sgnF (w : Tx) (m : Mv) : UInt8 := w.getD m.1.toNat 0
def pickW (g w : Tx) : Option Mv := (woL w).find? fun m => decide (0 < playsF g (madeF w m))
theorem pickW_mem {g w : Tx} {m : Mv} (h : pickW g w = some m) : m ∈ movesF w both ∧ 0 < playsF g (madeF w m) := by
  unfold pickW at h
  have h1 := List.find?_some h
  exact ⟨woL_mem.1 (List.mem_of_find?_eq_some h), by simpa using h1⟩
def wfirF (g w : Tx) : Tx := if w = g then [] else match h : pickW g w with
  | none => []
  | some m => sgnF w m :: wfirF g (madeF w m)
termination_by wayF w
decreasing_by exact way_made (pickW_mem h).1
theorem wfirF_self (g : Tx) : wfirF g g = [] := by rw [wfirF, if_pos rfl]
theorem wfirF_step {g w : Tx} {m : Mv} (hne : w ≠ g) (h : pickW g w = some m) : wfirF g w = sgnF w m :: wfirF g (madeF w m) := by
  rw [wfirF, if_neg hne]
  split
  · rename_i h'; rw [h] at h'; cases h'
  · rename_i m' h'
    rw [h] at h'
    obtain rfl := Option.some.inj h'
    rfl
theorem wfirF_len (g : Tx) : ∀ (n : Nat) (w : Tx), wayF w = n → (wfirF g w).length ≤ n
  | n, w, hn => by
    rw [wfirF]
    split
    · simp
    · split
      · simp
      · rename_i m h
        have h1 := way_made (pickW_mem h).1
        have h2 := wfirF_len g (wayF (madeF w m)) (madeF w m) rfl
        simp only [List.length_cons]
        omega
termination_by n => n
decreasing_by omega
theorem pickW_some {g w : Tx} (hne : w ≠ g) (h : 0 < playsF g w) : ∃ m, pickW g w = some m := by
  obtain ⟨m, hm, hp⟩ := (playsF_pos hne).1 h
  cases hf : pickW g w with
  | some m' => exact ⟨m', rfl⟩
  | none =>
    unfold pickW at hf
    rw [List.find?_eq_none] at hf
    have := hf m (woL_mem.2 hm)
    simp only [decide_eq_true_eq] at this
    exact absurd hp this
theorem find_at {α : Type} {l : List α} {p : α → Bool} {k : Nat} (h : k < l.length) (h1 : p l[k] = true) (h2 : ∀ j (hj : j < l.length), j < k → p l[j] = false) : l.find? p = some l[k] := by
  rw [List.find?_eq_some_iff_getElem]
  exact ⟨h1, k, h, rfl, fun j hj => by simp [h2 j (by omega) hj]⟩
theorem after_pos {w v : Tx} : 0 ≤ afterF w v ↔ 0 < playsF v w := by
  rcases after_cases w v with ⟨k, hk, he⟩ | ⟨hn, he⟩
  · have : 0 < playsF v w := by
      rw [plays_at (lay_mem.2 hk)]
      exact List.count_pos_iff.2 (endsF_mem.2 (lay_mem.2 hk))
    rw [he]; exact ⟨fun _ => this, fun _ => by omega⟩
  · have : playsF v w = 0 := plays_none fun k hk => hn k (lay_mem.1 hk)
    rw [he, this]
    exact ⟨fun h => by omega, fun h => by omega⟩

/-! ### The first of the longest words -/
theorem lay_first {w v : Tx} {k : Nat} : v ∈ layF w (k + 1) ↔ ∃ m ∈ movesF w both, v ∈ layF (madeF w m) k := by
  rw [← endsF_mem, endsF_first]
  simp only [List.mem_flatMap, succF, List.mem_map]
  constructor
  · rintro ⟨u, ⟨m, hm, rfl⟩, hv⟩; exact ⟨m, hm, endsF_mem.1 hv⟩
  · rintro ⟨m, hm, hv⟩; exact ⟨_, ⟨m, hm, rfl⟩, endsF_mem.2 hv⟩
theorem depth_made {w : Tx} {m : Mv} (hm : m ∈ movesF w both) : depthF (madeF w m) + 1 ≤ depthF w := by
  rw [← depth_iff]
  obtain ⟨v, hv⟩ := List.exists_mem_of_ne_nil _ (depth_ne (Nat.le_refl (depthF (madeF w m))))
  intro e
  have : v ∈ layF w (depthF (madeF w m) + 1) := lay_first.2 ⟨m, hm, hv⟩
  rw [e] at this; cases this
theorem depth_first {w : Tx} {d : Nat} (h : depthF w = d + 1) : ∃ m ∈ movesF w both, depthF (madeF w m) = d := by
  obtain ⟨v, hv⟩ := List.exists_mem_of_ne_nil _ (depth_ne (Nat.le_of_eq h.symm))
  obtain ⟨m, hm, hv⟩ := lay_first.1 hv
  have h1 := depth_made hm
  have h2 : d ≤ depthF (madeF w m) := depth_iff.1 fun e => by rw [e] at hv; cases hv
  exact ⟨m, hm, by omega⟩
theorem free_depth : ∀ (n : Nat) (w : Tx), wayF w < n → freeF w both = (depthF w : Int)
  | 0, w, h => absurd h (Nat.not_lt_zero _)
  | n + 1, w, hn => by
    rw [freeF_eq]
    have e : (movesF w both).foldl (fun a m => max a (1 + freeF (madeF w m) both)) 0 = (movesF w both).foldl (fun a m => max a (1 + (depthF (madeF w m) : Int))) 0 :=
      foldl_mem_congr fun b m hm => by rw [free_depth n (madeF w m) (by have := way_made hm; omega)]
    rw [e]
    have hle : (movesF w both).foldl (fun a m => max a (1 + (depthF (madeF w m) : Int))) 0 ≤ (depthF w : Int) :=
      foldl_max_le (g := fun m => 1 + (depthF (madeF w m) : Int)) (by omega) fun m hm => by have := depth_made hm; omega
    have hge : (depthF w : Int) ≤ (movesF w both).foldl (fun a m => max a (1 + (depthF (madeF w m) : Int))) 0 := by
      cases hd : depthF w with
      | zero => exact le_foldl_max (g := fun m => 1 + (depthF (madeF w m) : Int))
      | succ d =>
        obtain ⟨m, hm, h1⟩ := depth_first hd
        have key : ∀ (l : List Mv) (a : Int), m ∈ l → 1 + (depthF (madeF w m) : Int) ≤ l.foldl (fun a m => max a (1 + (depthF (madeF w m) : Int))) a := by
          intro l
          induction l with
          | nil => intro a h; cases h
          | cons x l ih =>
            intro a h
            rcases List.mem_cons.1 h with h | h
            · subst h
              refine Int.le_trans (Int.le_max_right a _) ?_
              exact le_foldl_max (g := fun m => 1 + (depthF (madeF w m) : Int))
            · exact ih _ h
        have := key _ 0 hm
        omega
    omega
def pickD (w : Tx) : Option Mv := (woL w).find? fun m => decide (depthF (madeF w m) + 1 = depthF w)
theorem pickD_mem {w : Tx} {m : Mv} (h : pickD w = some m) : m ∈ movesF w both ∧ depthF (madeF w m) + 1 = depthF w := by
  unfold pickD at h
  have h1 := List.find?_some h
  exact ⟨woL_mem.1 (List.mem_of_find?_eq_some h), by simpa using h1⟩
def longW (w : Tx) : Tx := match h : pickD w with
  | none => []
  | some m => sgnF w m :: longW (madeF w m)
termination_by wayF w
decreasing_by exact way_made (pickD_mem h).1
theorem longW_step {w : Tx} {m : Mv} (h : pickD w = some m) : longW w = sgnF w m :: longW (madeF w m) := by
  rw [longW]
  split
  · rename_i h'; rw [h] at h'; cases h'
  · rename_i m' h'
    rw [h] at h'
    obtain rfl := Option.some.inj h'
    rfl
theorem pickD_some {w : Tx} {d : Nat} (h : depthF w = d + 1) : ∃ m, pickD w = some m := by
  obtain ⟨m, hm, hp⟩ := depth_first h
  cases hf : pickD w with
  | some m' => exact ⟨m', rfl⟩
  | none =>
    unfold pickD at hf
    rw [List.find?_eq_none] at hf
    have := hf m (woL_mem.2 hm)
    simp only [decide_eq_true_eq] at this
    omega
theorem pickD_none {w : Tx} (h : depthF w = 0) : pickD w = none := by
  cases hf : pickD w with
  | none => rfl
  | some m =>
    have := (pickD_mem hf).2
    omega
theorem longW_nil {w : Tx} (h : depthF w = 0) : longW w = [] := by
  rw [longW]
  split
  · rfl
  · rename_i m h'; rw [pickD_none h] at h'; cases h'
theorem longW_len : ∀ (d : Nat) (w : Tx), depthF w = d → (longW w).length = d
  | 0, w, h => by rw [longW_nil h]; rfl
  | d + 1, w, h => by
    obtain ⟨m, hm⟩ := pickD_some h
    rw [longW_step hm, List.length_cons, longW_len d (madeF w m) (by have := (pickD_mem hm).2; omega)]
/-- A line of the last layer is reached from the line behind a move: that is as deep as it can be. -/
theorem deep_made {w v : Tx} {m : Mv} (hv : v ∈ layF w (depthF w)) (hm : m ∈ movesF w both) (hp : 0 < playsF v (madeF w m)) : depthF (madeF w m) + 1 = depthF w ∧ v ∈ layF (madeF w m) (depthF (madeF w m)) := by
  have h1 : ∃ k, v ∈ layF (madeF w m) k := by
    apply Classical.byContradiction
    intro hn
    rw [plays_none fun k hk => hn ⟨k, hk⟩] at hp
    omega
  obtain ⟨k, hk⟩ := h1
  have h2 : k + 1 = depthF w := reach_unique (lay_mem.1 (lay_first.2 ⟨m, hm, hk⟩)) (lay_mem.1 hv)
  have h3 := depth_made hm
  have h4 : k ≤ depthF (madeF w m) := depth_iff.1 fun e => by rw [e] at hk; cases hk
  have h5 : k = depthF (madeF w m) := by omega
  exact ⟨by omega, h5 ▸ hk⟩
theorem plays_lay {w v : Tx} {k : Nat} (h : v ∈ layF w k) : 0 < playsF v w := by
  rw [plays_at h]
  exact List.count_pos_iff.2 (endsF_mem.2 h)
theorem deep_ne {w v : Tx} {d : Nat} (hd : depthF w = d + 1) (hv : v ∈ layF w (depthF w)) : w ≠ v := fun e => by
  subst e
  have h0 : w ∈ layF w 0 := by simp [layF]
  have := reach_unique (lay_mem.1 hv) (lay_mem.1 h0)
  omega
theorem find_imp {α : Type} {l : List α} {p q : α → Bool} {a : α} (h : l.find? p = some a) (hq : q a = true) (himp : ∀ x ∈ l, q x = true → p x = true) : l.find? q = some a := by
  rw [List.find?_eq_some_iff_getElem] at h ⊢
  obtain ⟨_, i, hi, e, hn⟩ := h
  refine ⟨hq, i, hi, e, fun j hj => ?_⟩
  have := hn j hj
  cases hqj : q (l[j]'(by omega)) with
  | false => rfl
  | true =>
    rw [himp _ (List.getElem_mem _) hqj] at this
    simp at this
/-- Some line of the last layer has the longest word for its first word. -/
theorem long_some : ∀ (d : Nat) (w : Tx), depthF w = d → ∃ v ∈ layF w (depthF w), wfirF v w = longW w
  | 0, w, h => ⟨w, by rw [h]; simp [layF], by rw [wfirF_self, longW_nil h]⟩
  | d + 1, w, h => by
    obtain ⟨m, hm⟩ := pickD_some h
    obtain ⟨h1, h2⟩ := pickD_mem hm
    obtain ⟨v, hv, e⟩ := long_some d (madeF w m) (by omega)
    have hvw : v ∈ layF w (depthF w) := by rw [← h2]; exact lay_first.2 ⟨m, h1, hv⟩
    refine ⟨v, hvw, ?_⟩
    have hp : pickW v w = some m := by
      unfold pickD at hm
      unfold pickW
      refine find_imp hm (decide_eq_true (plays_lay hv)) fun x hx hq => ?_
      rw [decide_eq_true_eq] at hq ⊢
      exact (deep_made hvw (woL_mem.1 hx) hq).1
    rw [wfirF_step (deep_ne h hvw) hp, longW_step hm, e]
/-- No line of the last layer has a first word that comes before the longest word. -/
theorem long_least : ∀ (d : Nat) (w : Tx), depthF w = d → w.count 46 = 1 → ∀ v ∈ layF w (depthF w), ltT (wfirF v w) (longW w) = false
  | 0, w, h, _, v, _ => by rw [longW_nil h]; exact ltT_nil _
  | d + 1, w, h, hg, v, hv => by
    obtain ⟨m, hm⟩ := pickD_some h
    obtain ⟨h1, h2⟩ := pickD_mem hm
    have hne := deep_ne h hv
    obtain ⟨m', hm'⟩ := pickW_some hne (plays_lay hv)
    obtain ⟨h1', h2'⟩ := pickW_mem hm'
    have h3 := deep_made hv h1' h2'
    rw [wfirF_step hne hm', longW_step hm, ltT_cons]
    have hmem' : m' ∈ woL w := woL_mem.2 h1'
    have hmem : m ∈ woL w := woL_mem.2 h1
    have same : m' = m → (decide (sgnF w m' < sgnF w m) || (sgnF w m' == sgnF w m && ltT (wfirF v (madeF w m')) (longW (madeF w m)))) = false := fun e => by
      subst e
      rw [long_least d (madeF w m') (by omega) (one_made hg h1) v h3.2]
      have : ¬ (sgnF w m' < sgnF w m') := by rw [u8_lt_nat]; omega
      simp [this]
    unfold pickD at hm
    unfold woL at hm hmem hmem'
    rcases one_kind 70 hg with e7 | ⟨a, e7⟩ <;> rcases one_kind 84 hg with e8 | ⟨b, e8⟩
    · rw [e7, e8] at hmem; simp at hmem
    · rw [e7, e8] at hmem hmem'
      simp only [List.nil_append, List.mem_singleton] at hmem hmem'
      exact same (by rw [hmem', hmem])
    · rw [e7, e8] at hmem hmem'
      simp only [List.append_nil, List.mem_singleton] at hmem hmem'
      exact same (by rw [hmem', hmem])
    · rw [e7, e8] at hm hmem hmem'
      have ha : sgnF w a = 70 := kind_of (by rw [e7]; simp)
      have hb : sgnF w b = 84 := kind_of (by rw [e8]; simp)
      simp only [List.cons_append, List.nil_append, List.mem_cons, List.not_mem_nil, or_false] at hmem' hmem
      by_cases hpa : depthF (madeF w a) + 1 = depthF w
      · have hma : m = a := by
          simp only [List.cons_append, List.nil_append, List.find?_cons, decide_eq_true hpa] at hm
          exact (Option.some.inj hm).symm
        rcases hmem' with e | e
        · exact same (e.trans hma.symm)
        · rw [e, hma, ha, hb]; rfl
      · have hma' : m' = b := by
          rcases hmem' with e | e
          · subst e; exact absurd h3.1 hpa
          · exact e
        have hmb : m = b := by
          rcases hmem with e | e
          · subst e; exact absurd h2 hpa
          · exact e
        exact same (hma'.trans hmb.symm)
/-- The best word of the first lines of a layer. -/
def bestOk (w : Tx) (l : List Tx) (i : Nat) (b : Tx) : Prop := (i = 0 → b = []) ∧ (0 < i → (∃ j, ∃ hj : j < l.length, b = wfirF l[j] w) ∧ ∀ j (hj : j < l.length), j < i → ltT (wfirF l[j] w) b = false)
theorem bestOk_zero (w : Tx) (l : List Tx) : bestOk w l 0 [] := ⟨fun _ => rfl, fun h => absurd h (Nat.not_lt_zero _)⟩
theorem bestOk_new {w : Tx} {l : List Tx} {i : Nat} {b : Tx} (h : bestOk w l i b) (hi : i < l.length) (hlt : i = 0 ∨ ltT (wfirF l[i] w) b = true) : bestOk w l (i + 1) (wfirF l[i] w) := by
  refine ⟨fun e => by omega, fun _ => ⟨⟨i, hi, rfl⟩, fun j hj hji => ?_⟩⟩
  by_cases e : j = i
  · subst e; exact ltT_irrefl _
  · rcases hlt with h0 | h0
    · omega
    · cases hc : ltT (wfirF l[j] w) (wfirF l[i] w) with
      | false => rfl
      | true =>
        have := (h.2 (by omega)).2 j hj (by omega)
        rw [ltT_trans hc h0] at this
        cases this
theorem bestOk_old {w : Tx} {l : List Tx} {i : Nat} {b : Tx} (h : bestOk w l i b) (hi : i < l.length) (h0 : i ≠ 0) (hge : ltT (wfirF l[i] w) b = false) : bestOk w l (i + 1) b := by
  obtain ⟨h1, h2⟩ := h.2 (by omega)
  refine ⟨fun e => by omega, fun _ => ⟨h1, fun j hj hji => ?_⟩⟩
  by_cases e : j = i
  · subst e; exact hge
  · exact h2 j hj (by omega)
theorem bestOk_end {w b : Tx} (hg : w.count 46 = 1) (h : bestOk w (layF w (depthF w)) (layF w (depthF w)).length b) : b = longW w := by
  obtain ⟨v, hv, e⟩ := long_some _ w rfl
  obtain ⟨j, hj, rfl⟩ := List.getElem_of_mem hv
  obtain ⟨⟨k, hk, hb⟩, h2⟩ := h.2 (by omega)
  have h3 := h2 j hj hj
  rw [e] at h3
  have h4 := long_least _ w rfl hg _ (List.getElem_mem hk)
  rw [← hb] at h4
  apply Classical.byContradiction
  intro hne
  rw [ltT_total h4 hne] at h3
  cases h3

/-! ### An exchange over one gap -/
def dfsF (g : Tx) : Nat → Tx → Bool
  | 0, w => decide (w = g)
  | n + 1, w => decide (w = g) || (movesF w both).any fun m => dfsF g n (madeF w m)
theorem dfs_pos (g : Tx) : ∀ (n : Nat) (w : Tx), dfsF g n w = true → 0 < playsF g w
  | 0, w, h => by
    simp only [dfsF, decide_eq_true_eq] at h
    rw [h, playsF_self]; exact Nat.one_pos
  | n + 1, w, h => by
    simp only [dfsF, Bool.or_eq_true, decide_eq_true_eq, List.any_eq_true] at h
    by_cases e : w = g
    · rw [e, playsF_self]; exact Nat.one_pos
    · obtain ⟨m, hm, hp⟩ := h.resolve_left e
      exact (playsF_pos e).2 ⟨m, hm, dfs_pos g n _ hp⟩
theorem exch_one {a c : Nat} (ha : 1 ≤ a) (hc : 1 ≤ c) (h : a + c ≤ 9) : 0 < playsF (lastF (firstF a 1 c)) (firstF a 1 c) := by
  have key : ∀ a : Fin 9, ∀ c : Fin 9, 1 ≤ a.val → 1 ≤ c.val → a.val + c.val ≤ 9 → dfsF (lastF (firstF a.val 1 c.val)) 33 (firstF a.val 1 c.val) = true := by decide +kernel
  exact dfs_pos _ 33 _ (key ⟨a, by omega⟩ ⟨c, by omega⟩ ha hc h)
end Go.Proofs.YtblihaicbhdbdaaDoor.X
