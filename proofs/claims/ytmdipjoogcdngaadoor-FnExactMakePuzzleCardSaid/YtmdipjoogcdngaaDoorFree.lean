/- Free moves: by recursion in the reference, with a memo in the program. No condition beyond each statement's. -/
import Derived.Test.YtmdipjoogcdngaaDoorKind
import Derived.Test.YtmdipjoogcdngaaDoorWayF
namespace Go.Proofs.YtmdipjoogcdngaaDoor.X
open Go.Proofs
set_option maxRecDepth 100000
set_option linter.unusedVariables false
set_option linter.unusedSimpArgs false

theorem foldl_take {α β : Type} {f : β → α → β} {b : β} {l : List α} {k : Nat} (h : k < l.length) : (l.take (k + 1)).foldl f b = f ((l.take k).foldl f b) l[k] := by
  rw [List.take_succ_eq_append_getElem h, List.foldl_append]; rfl
theorem maxEq (a b : Int) : (if a < b then b else a) = max a b := by
  rw [Int.max_def]; split <;> split <;> omega
def freeStep (w kind : Tx) (a : Int) (m : Mv) : Int := max a (1 + freeF (madeF w m) kind)
def freeTo (w kind : Tx) (k : Nat) : Int := ((movesF w kind).take k).foldl (freeStep w kind) 0
theorem freeTo_end (w kind : Tx) {k : Nat} (h : (movesF w kind).length ≤ k) : freeTo w kind k = freeF w kind := by
  unfold freeTo; rw [List.take_of_length_le h, freeF_eq]; rfl
theorem freeTo_bound (w kind : Tx) (k : Nat) : 0 ≤ freeTo w kind k ∧ freeTo w kind k ≤ wayF w := by
  unfold freeTo
  refine ⟨le_foldl_max (g := fun m => 1 + freeF (madeF w m) kind), foldl_max_le (g := fun m => 1 + freeF (madeF w m) kind) (by omega) fun m hm => ?_⟩
  have h1 := way_made (List.mem_of_mem_take hm)
  have h2 := freeF_bound kind _ (madeF w m) (Nat.le_refl _)
  omega
theorem way_small {w : Tx} (h : w.length ≤ 1000) : wayF w ≤ 1000000 := by
  have h1 := wayF_le w
  have h2 := Nat.mul_le_mul h h
  omega


/-! ### The program's, with its memo -/
def okFree (kind : Tx) (es : List (C × V)) : Prop := ∀ p ∈ es, ∃ w, p = (.str w, i64 (freeF w kind))
theorem okFree_get {kind : Tx} {es : List (C × V)} {w : Tx} {v : V} (h : okFree kind es) (hg : getM es (.str w) = some v) : v = i64 (freeF w kind) := by
  obtain ⟨k, hk, he⟩ := getM_mem hg
  obtain ⟨w', e⟩ := h _ hk
  simp only [Prod.mk.injEq] at e
  obtain ⟨rfl, rfl⟩ := e
  simp only [keyEq, decide_eq_true_eq] at he
  rw [he]
theorem okFree_set {kind : Tx} {es : List (C × V)} {w : Tx} (h : okFree kind es) : okFree kind (setM es (.str w) (i64 (freeF w kind))) := fun p hp => by
  rcases mem_setM hp with hp | hp
  · exact h p hp
  · exact ⟨w, hp⟩




def freeAskF (w kind : Tx) : Int := if lineOf w 10 then freeF w kind else 0
end Go.Proofs.YtmdipjoogcdngaaDoor.X
