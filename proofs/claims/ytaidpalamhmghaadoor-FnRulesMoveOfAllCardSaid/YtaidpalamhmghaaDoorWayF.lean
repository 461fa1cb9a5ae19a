/- Every move shortens the way that is left. No condition. -/
import Derived.Test.YtaidpalamhmghaaDoorLineF
namespace Go.Proofs.YtaidpalamhmghaaDoor.X
set_option linter.unusedVariables false
set_option linter.unusedSimpArgs false

def sumTo (f : Nat → Nat) : Nat → Nat
  | 0 => 0
  | n + 1 => sumTo f n + f n
theorem sumTo_congr {f g : Nat → Nat} : ∀ {n : Nat}, (∀ i, i < n → f i = g i) → sumTo f n = sumTo g n
  | 0, _ => rfl
  | n + 1, h => by simp only [sumTo]; rw [sumTo_congr fun i hi => h i (by omega), h n (by omega)]
theorem sumTo_upd (f : Nat → Nat) (i v : Nat) : ∀ {n : Nat}, i < n → sumTo (fun k => if k = i then v else f k) n + f i = sumTo f n + v
  | n + 1, h => by
    simp only [sumTo]
    by_cases e : n = i
    · subst e
      rw [if_pos rfl, sumTo_congr (g := f) fun j hj => if_neg (by omega)]
      omega
    · rw [if_neg e]
      have := sumTo_upd f i v (n := n) (by omega)
      omega
theorem sumTo_le {f : Nat → Nat} {b : Nat} : ∀ {n : Nat}, (∀ i, i < n → f i ≤ b) → sumTo f n ≤ n * b
  | 0, _ => by simp [sumTo]
  | n + 1, h => by
    simp only [sumTo]
    have h1 := sumTo_le (n := n) fun i hi => h i (by omega)
    have h2 := h n (by omega)
    rw [Nat.succ_mul]; omega

def cellF (n i : Nat) (b : UInt8) : Nat := if b = 84 then n - i else if b = 70 then i + 1 else 0
def wayF (w : Tx) : Nat := sumTo (fun i => cellF w.length i (w.getD i 0)) w.length
theorem wayF_le (w : Tx) : wayF w ≤ w.length * w.length := sumTo_le fun i hi => by
  unfold cellF
  split
  · omega
  · split <;> omega

theorem madeF_getD {w : Tx} {x y k : Nat} (hx : x < w.length) (hy : y < w.length) :
    (madeF w ((x : Int), (y : Int))).getD k 0 = if k = x then 46 else if k = y then w.getD x 0 else w.getD k 0 := by
  unfold madeF
  simp only [Int.toNat_natCast]
  rw [List.getD_eq_getElem?_getD, List.getElem?_set, List.length_set]
  by_cases e : k = x
  · rw [if_pos e.symm, if_pos hx, if_pos e]; rfl
  · rw [if_neg (Ne.symm e), if_neg e, List.getElem?_set]
    by_cases e2 : k = y
    · rw [if_pos e2.symm, if_pos hy, if_pos e2]; rfl
    · rw [if_neg (Ne.symm e2), if_neg e2, ← List.getD_eq_getElem?_getD]

theorem way_made {w kinds : Tx} {m : Mv} (h : m ∈ movesF w kinds) : wayF (madeF w m) < wayF w := by
  obtain ⟨i, hi, e, hg, _⟩ := movesF_mem h
  obtain ⟨h1, h2, h3, h4, h5⟩ := goalF_spec hg
  obtain ⟨a, b⟩ := m
  simp only at e h1 h2 h3 h5
  subst e
  obtain ⟨y, rfl⟩ := Int.eq_ofNat_of_zero_le h1
  have hy : y < w.length := by omega
  rw [atF_in (by omega), Int.toNat_natCast] at h3
  have hne : y ≠ i := by
    intro e2
    have hz : stepF (w.getD i 0) = 0 := by rw [← e2, h3]; decide
    exact h4 hz
  have e1 : wayF (madeF w ((i : Int), (y : Int))) = sumTo (fun k => if k = i then 0 else if k = y then cellF w.length y (w.getD i 0) else cellF w.length k (w.getD k 0)) w.length := by
    unfold wayF
    rw [madeF_len]
    refine sumTo_congr fun k hk => ?_
    rw [madeF_getD hi hy]
    by_cases e3 : k = i
    · rw [if_pos e3, if_pos e3]; simp [cellF]
    · rw [if_neg e3, if_neg e3]
      by_cases e4 : k = y
      · rw [if_pos e4, if_pos e4, e4]
      · rw [if_neg e4, if_neg e4]
  have e2 := sumTo_upd (fun k => if k = y then cellF w.length y (w.getD i 0) else cellF w.length k (w.getD k 0)) i 0 hi
  have e3 := sumTo_upd (fun k => cellF w.length k (w.getD k 0)) y (cellF w.length y (w.getD i 0)) hy
  simp only [if_neg (Ne.symm hne), h3] at e2 e3
  rw [← e1] at e2
  have e4 : cellF w.length y 46 = 0 := by simp [cellF]
  rw [e4] at e3
  have key : cellF w.length y (w.getD i 0) < cellF w.length i (w.getD i 0) := by
    generalize w.getD i 0 = c at *
    unfold stepF at h4 h5
    unfold cellF
    by_cases c1 : c = 84
    · simp only [c1, if_true] at h5 ⊢; omega
    · by_cases c2 : c = 70
      · subst c2
        simp only [if_true, show ¬ ((70 : UInt8) = 84) from by decide, if_false] at h5 ⊢; omega
      · simp [c1, c2] at h4
  show _ < sumTo (fun k => cellF w.length k (w.getD k 0)) w.length
  omega

theorem foldl_mem_congr {α β : Type} {f g : β → α → β} : ∀ {l : List α} {b : β}, (∀ b, ∀ a ∈ l, f b a = g b a) → l.foldl f b = l.foldl g b
  | [], _, _ => rfl
  | a :: l, b, h => by
    simp only [List.foldl_cons]
    rw [h b a List.mem_cons_self]
    exact foldl_mem_congr fun b x hx => h b x (List.mem_cons_of_mem _ hx)
theorem foldl_attach_val {α β : Type} {l : List α} {f : β → α → β} {b : β} : l.attach.foldl (fun b x => f b x.1) b = l.foldl f b := by
  rw [List.foldl_attach]

/-- How many moves of a kind can be made one after the other. -/
def freeF (w kind : Tx) : Int := (movesF w kind).attach.foldl (fun a m => max a (1 + freeF (madeF w m.1) kind)) 0
termination_by wayF w
decreasing_by exact way_made m.2
theorem freeF_eq (w kind : Tx) : freeF w kind = (movesF w kind).foldl (fun a m => max a (1 + freeF (madeF w m) kind)) 0 := by
  rw [freeF]
  exact foldl_attach_val (f := fun a m => max a (1 + freeF (madeF w m) kind))

theorem foldl_max_le {α : Type} {g : α → Int} {b : Int} : ∀ {l : List α} {a : Int}, a ≤ b → (∀ m ∈ l, g m ≤ b) → l.foldl (fun a m => max a (g m)) a ≤ b
  | [], a, h, _ => h
  | m :: l, a, h, h2 => by
    simp only [List.foldl_cons]
    refine foldl_max_le ?_ fun x hx => h2 x (List.mem_cons_of_mem _ hx)
    have := h2 m List.mem_cons_self
    omega
theorem le_foldl_max {α : Type} {g : α → Int} : ∀ {l : List α} {a : Int}, a ≤ l.foldl (fun a m => max a (g m)) a
  | [], a => Int.le_refl a
  | m :: l, a => by
    simp only [List.foldl_cons]
    exact Int.le_trans (Int.le_max_left a (g m)) le_foldl_max
theorem freeF_bound (kind : Tx) : ∀ (n : Nat) (w : Tx), wayF w ≤ n → 0 ≤ freeF w kind ∧ freeF w kind ≤ wayF w
  | n, w, h => by
    rw [freeF_eq]
    refine ⟨le_foldl_max, foldl_max_le (by omega) fun m hm => ?_⟩
    have hw := way_made hm
    cases n with
    | zero => omega
    | succ n =>
      have := (freeF_bound kind n (madeF w m) (by omega)).2
      omega
end Go.Proofs.YtaidpalamhmghaaDoor.X
