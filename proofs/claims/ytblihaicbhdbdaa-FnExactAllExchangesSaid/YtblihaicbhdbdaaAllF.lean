/- All exchanges, in order; rows of rows of moves, marked. No condition. -/
import Derived.Test.YtblihaicbhdbdaaSwapF
import Derived.Test.YtblihaicbhdbdaaMove
namespace Go.Proofs.Ytblihaicbhdbdaa.X
set_option linter.unusedVariables false
set_option linter.unusedSimpArgs false

def allX (g w : Tx) : List (List Mv) := if w = g then [[]] else ((movesF w both).attach.map fun m => (allX g (madeF w m.1)).map (m.1 :: ·)).flatten
termination_by wayF w
decreasing_by exact way_made m.2
theorem allX_eq (g w : Tx) : allX g w = if w = g then [[]] else ((movesF w both).map fun m => (allX g (madeF w m)).map (m :: ·)).flatten := by
  rw [allX]
  split
  · rfl
  · congr 1
    exact List.attach_map_val (f := fun m => (allX g (madeF w m)).map (m :: ·)) (l := movesF w both)
theorem allX_self (g : Tx) : allX g g = [[]] := by rw [allX_eq, if_pos rfl]
theorem allX_len (g : Tx) : ∀ (n : Nat) (w : Tx), wayF w < n → (allX g w).length = playsF g w
  | 0, w, h => absurd h (Nat.not_lt_zero _)
  | n + 1, w, h => by
    rw [allX_eq, playsF_eq]
    split
    · rfl
    · rw [List.length_flatten, List.map_map]
      congr 1
      refine List.map_congr_left fun m hm => ?_
      have := way_made hm
      simp only [Function.comp, List.length_map]
      exact allX_len g n (madeF w m) (by omega)
theorem allX_none {g w : Tx} (h : playsF g w = 0) : allX g w = [] := List.eq_nil_of_length_eq_zero (by rw [allX_len g _ w (Nat.lt_succ_self _), h])
def allTo (L : List Mv) (g w : Tx) (j : Nat) : List (List Mv) := ((L.take j).map fun m => (allX g (madeF w m)).map (m :: ·)).flatten
theorem allTo_zero (L : List Mv) (g w : Tx) : allTo L g w 0 = [] := by simp [allTo]
theorem allTo_succ {L : List Mv} (g w : Tx) {j : Nat} (h : j < L.length) : allTo L g w (j + 1) = allTo L g w j ++ (allX g (madeF w L[j])).map (L[j] :: ·) := by
  unfold allTo
  rw [List.take_succ_eq_append_getElem h, List.map_append, List.flatten_append]
  simp
theorem allTo_end {g w : Tx} (hne : w ≠ g) {j : Nat} (h : (movesF w both).length ≤ j) : allTo (movesF w both) g w j = allX g w := by
  unfold allTo
  rw [List.take_of_length_le h, allX_eq, if_neg hne]
theorem flat_filter {α β : Type} (p : α → Bool) (f : α → List β) : ∀ (l : List α), (∀ m ∈ l, p m = false → f m = []) → ((l.filter p).map f).flatten = (l.map f).flatten
  | [], _ => rfl
  | m :: l, h => by
    have ih := flat_filter p f l fun x hx => h x (List.mem_cons_of_mem _ hx)
    cases hp : p m with
    | true => rw [List.filter_cons, hp]; simp only [if_true, List.map_cons, List.flatten_cons, ih]
    | false => rw [List.filter_cons, hp]; simp only [Bool.false_eq_true, if_false, List.map_cons, List.flatten_cons, ih, h m List.mem_cons_self hp, List.nil_append]
theorem allTo_live {g w : Tx} (hw : w.length ≤ 8) (hne : w ≠ g) {j : Nat} (h : (liveF g w).length ≤ j) : allTo (liveF g w) g w j = allX g w := by
  unfold allTo
  rw [List.take_of_length_le h, allX_eq, if_neg hne]
  unfold liveF
  refine flat_filter _ _ _ fun m hm hp => ?_
  have h0 : wp g (madeF w m) = 0 := by simpa using hp
  rw [wp_few (by rw [madeF_len]; exact hw)] at h0
  rw [allX_none (by omega)]; rfl
theorem allTo_len (L : List Mv) (g w : Tx) (j : Nat) : (allTo L g w j).length ≤ (allTo L g w L.length).length := by
  unfold allTo
  rw [List.length_flatten, List.length_flatten, List.take_length, List.map_map, List.map_map, List.map_take]
  exact sum_take_le _ _
theorem allX_each (g : Tx) : ∀ (n : Nat) (w : Tx), wayF w < n → ∀ l ∈ allX g w, l.length ≤ wayF w
  | 0, w, h, _, _ => absurd h (Nat.not_lt_zero _)
  | n + 1, w, h, l, hl => by
    rw [allX_eq] at hl
    split at hl
    · simp at hl; rw [hl]; simp
    · obtain ⟨x, hx, hlx⟩ := List.mem_flatten.1 hl
      obtain ⟨m, hm, rfl⟩ := List.mem_map.1 hx
      obtain ⟨l', hl', rfl⟩ := List.mem_map.1 hlx
      have h1 := way_made hm
      have h2 := allX_each g n (madeF w m) (by omega) l' hl'
      simp only [List.length_cons]; omega
def exE (b : List Mv) (L : List (List Mv)) : List (List (List C)) := L.map fun l => mvE (b ++ l)
theorem exE_len (b : List Mv) (L : List (List Mv)) : (exE b L).length = L.length := by simp [exE]
theorem exE_app (b : List Mv) (L L' : List (List Mv)) : exE b (L ++ L') = exE b L ++ exE b L' := by simp [exE]
theorem exE_cons (b : List Mv) (m : Mv) (L : List (List Mv)) : exE b (L.map (m :: ·)) = exE (b ++ [m]) L := by simp [exE]

/-! ### Rows of rows, marked -/
def kAt (L : List (List Mv)) (k : Int) (i : Nat) : Int := k + 2 * (((L.take i).map List.length).sum : Nat)
theorem kAt_succ {L : List (List Mv)} (k : Int) {i : Nat} (h : i < L.length) : kAt L k (i + 1) = kAt L k i + 2 * (L[i].length : Nat) := by
  unfold kAt
  rw [List.take_succ_eq_append_getElem h, List.map_append, List.sum_append]
  simp; omega
theorem kAt_bound {L : List (List Mv)} (h1 : L.length ≤ 1000) (h2 : ∀ l ∈ L, l.length ≤ 1000) {k : Int} (hk : 0 ≤ k ∧ k ≤ 1000) (i : Nat) : 0 ≤ kAt L k i ∧ kAt L k i ≤ 3000000 := by
  have h3 := sum_le_mul (fun l : List Mv => l.length) 1000 (L.take i) fun l hl => h2 l (List.mem_of_mem_take hl)
  have h4 : (L.take i).length ≤ 1000 := by simp; omega
  have h5 : (L.take i).length * 1000 ≤ 1000 * 1000 := Nat.mul_le_mul_right _ h4
  unfold kAt
  have e : (L.take i).map List.length = (L.take i).map fun l : List Mv => l.length := rfl
  rw [e]
  omega
def mkTo (L : List (List Mv)) (k : Int) (i : Nat) : List (List (List C)) := (List.range L.length).map fun j => if j < i then mvE (marks (kAt L k j) (L.getD j []).length) else mvE (L.getD j [])
theorem mkTo_len (L : List (List Mv)) (k : Int) (i : Nat) : (mkTo L k i).length = L.length := by simp [mkTo]
theorem getD_at {α : Type} {L : List α} {j : Nat} (d : α) (h : j < L.length) : L.getD j d = L[j] := by rw [List.getD_eq_getElem?_getD, List.getElem?_eq_getElem h]; rfl
theorem mkTo_zero (L : List (List Mv)) (k : Int) : mkTo L k 0 = exE [] L := by
  unfold mkTo exE
  apply List.ext_getElem
  · simp
  · intro j h1 h2
    simp only [List.getElem_map, List.getElem_range, Nat.not_lt_zero, if_false, List.nil_append]
    rw [getD_at _ (by simpa using h1)]
theorem mkTo_get {L : List (List Mv)} {k : Int} {i : Nat} (h : i < L.length) : (mkTo L k i)[i]? = some (mvE L[i]) := by
  unfold mkTo
  rw [List.getElem?_map, List.getElem?_range h, Option.map_some, if_neg (Nat.lt_irrefl _), getD_at _ h]
theorem mkTo_set {L : List (List Mv)} {k : Int} {i : Nat} (h : i < L.length) : (mkTo L k i).set i (mvE (marks (kAt L k i) L[i].length)) = mkTo L k (i + 1) := by
  apply List.ext_getElem
  · simp [mkTo]
  · intro j h1 h2
    rw [List.getElem_set]
    simp only [mkTo, List.getElem_map, List.getElem_range]
    by_cases e : i = j
    · subst e
      rw [if_pos rfl, if_pos (Nat.lt_succ_self _), getD_at _ h]
    · rw [if_neg e]
      by_cases hlt : j < i
      · rw [if_pos hlt, if_pos (by omega)]
      · rw [if_neg hlt, if_neg (by omega)]
theorem mkEnd_get {L : List (List Mv)} {k : Int} {i : Nat} (h : i < L.length) : (mkTo L k L.length)[i]? = some (mvE (marks (kAt L k i) L[i].length)) := by
  unfold mkTo
  rw [List.getElem?_map, List.getElem?_range h, Option.map_some, if_pos h, getD_at _ h]
end Go.Proofs.Ytblihaicbhdbdaa.X
