/- Free moves: by recursion in the reference, with a memo in the program. No condition beyond each statement's. -/
import Derived.Test.YtblihaicbhdbdaaDoorKind
import Derived.Test.YtblihaicbhdbdaaDoorWayF
namespace Go.Proofs.YtblihaicbhdbdaaDoor.X
open Go.Proofs
set_option maxRecDepth 100000
set_option linter.unusedVariables false
set_option linter.unusedSimpArgs false

theorem foldl_take {α β : Type} {f : β → α → β} {b : β} {l : List α} {k : Nat} (h : k < l.length) : (l.take (k + 1)).foldl f b = f ((l.take k).foldl f b) l[k] := by
  rw [List.take_succ_eq_append_getElem h, List.foldl_append]; rfl
theorem maxEq (a b : Int) : (if a < b then b else a) = max a b := by
  rw [Int.max_def]; split <;> split <;> omega
def freeStep (w kind : Tx) (a : Int) (m : Mv) : Int := max a (1 + freeF (madeF w m) kind)
def freeTo (w kind : Tx) (k : Nat) : Int := ((movesF w kind).take k).foldl (freeStep w kind) 0
theorem freeTo_end (w kind : Tx) {k : Nat} (h : (movesF w kind).length ≤ k) : freeTo w kind k = freeF w kind := by
  unfold freeTo; rw [List.take_of_length_le h, freeF_eq]; rfl
theorem freeTo_bound (w kind : Tx) (k : Nat) : 0 ≤ freeTo w kind k ∧ freeTo w kind k ≤ wayF w := by
  unfold freeTo
  refine ⟨le_foldl_max (g := fun m => 1 + freeF (madeF w m) kind), foldl_max_le (g := fun m => 1 + freeF (madeF w m) kind) (by omega) fun m hm => ?_⟩
  have h1 := way_made (List.mem_of_mem_take hm)
  have h2 := freeF_bound kind _ (madeF w m) (Nat.le_refl _)
  omega
theorem way_small {w : Tx} (h : w.length ≤ 1000) : wayF w ≤ 1000000 := by
  have h1 := wayF_le w
  have h2 := Nat.mul_le_mul h h
  omega


/-! ### The program's, with its memo -/
def okFree (kind : Tx) (es : List (C × V)) : Prop := ∀ p ∈ es, ∃ w, p = (.str w, i64 (freeF w kind))
theorem okFree_get {kind : Tx} {es : List (C × V)} {w : Tx} {v : V} (h : okFree kind es) (hg : getM es (.str w) = some v) : v = i64 (freeF w kind) := by
  obtain ⟨k, hk, he⟩ := getM_mem hg
  obtain ⟨w', e⟩ := h _ hk
  simp only [Prod.mk.injEq] at e
  obtain ⟨rfl, rfl⟩ := e
  simp only [keyEq, decide_eq_true_eq] at he
  rw [he]
theorem okFree_set {kind : Tx} {es : List (C × V)} {w : Tx} (h : okFree kind es) : okFree kind (setM es (.str w) (i64 (freeF w kind))) := fun p hp => by
  rcases mem_setM hp with hp | hp
  · exact h p hp
  · exact ⟨w, hp⟩



theorem isPlayed_spec (w : Tx) (hw : w.length ≤ 1048576) : Spec Tryd.prog 66 [.c (.str w)] [] (isRes [vb (lineOf w 10)] []) := by
  refine Spec.of_wpx tt_ok Tryd.func66 (by kernel_rfl) rfl ?_
  (repeat' ((conv => whnf); first | refine CondVC.t ?_ | refine CondVC.f ?_ | refine CondVC.dec (fun h => ?_) (fun h => ?_) | refine CondVC.ndec (fun h => ?_) (fun h => ?_) | refine CondVC.mk (fun h => ?_) (fun h => ?_) | refine ArVC.i64 (by first | omega | (simp only; omega)) ?_ | refine SideVC.mk (by first | omega | decide | (simp only; omega) | (simp [slS]; done) | (simp [slS]; omega) | (simp only [byteE_len, mvE_len, strE_len, intE_len, esC_len, List.length_cons, List.length_nil, List.length_append, List.length_replicate, List.length_set, Int.toNat_natCast, and_true] at *; omega)) ?_ | refine LoopN.go ?_ | exact trivial | refine AltVC.mk ?_ ?_ | refine HeldVC.mk rfl ?_ | refine CallVC.pure (isLineOf_spec w 10 (by omega)) rfl ?_ | refine OpVC.more tt_ok ?_ | refine RestVC.ext tt_ok ?_)); all_goals (conv => whnf)
  all_goals exact RetVC.res rfl rfl
theorem gaFew_spec (w : Tx) (hw : w.length ≤ 1048576) : Spec Tryd.prog 47 [.c (.str w)] [] (isRes [vb (lineOf w 10)] []) := by
  refine Spec.of_wpx tt_ok Tryd.func47 (by kernel_rfl) rfl ?_
  have h1 := liGood_spec w (by omega)
  have hr := lineFew w
  cases hl : lineOf w 12 with
  | true =>
    rw [hl] at h1 hr
    (repeat' ((conv => whnf); first | refine CondVC.t ?_ | refine CondVC.f ?_ | refine CondVC.dec (fun h => ?_) (fun h => ?_) | refine CondVC.ndec (fun h => ?_) (fun h => ?_) | refine CondVC.mk (fun h => ?_) (fun h => ?_) | refine ArVC.i64 (by first | omega | (simp only; omega)) ?_ | refine SideVC.mk (by first | omega | decide | (simp only; omega) | (simp [slS]; done) | (simp [slS]; omega) | (simp only [byteE_len, mvE_len, strE_len, intE_len, esC_len, List.length_cons, List.length_nil, List.length_append, List.length_replicate, List.length_set, Int.toNat_natCast, and_true] at *; omega)) ?_ | refine LoopN.go ?_ | exact trivial | refine AltVC.mk ?_ ?_ | refine HeldVC.mk rfl ?_ | refine CallVC.pure h1 rfl ?_ | refine OpVC.more tt_ok ?_ | refine RestVC.ext tt_ok ?_)); all_goals (conv => whnf)
    all_goals exact RetVC.res (by rw [← hr]; simp [vb]) rfl
  | false =>
    rw [hl] at h1 hr
    (repeat' ((conv => whnf); first | refine CondVC.t ?_ | refine CondVC.f ?_ | refine CondVC.dec (fun h => ?_) (fun h => ?_) | refine CondVC.ndec (fun h => ?_) (fun h => ?_) | refine CondVC.mk (fun h => ?_) (fun h => ?_) | refine ArVC.i64 (by first | omega | (simp only; omega)) ?_ | refine SideVC.mk (by first | omega | decide | (simp only; omega) | (simp [slS]; done) | (simp [slS]; omega) | (simp only [byteE_len, mvE_len, strE_len, intE_len, esC_len, List.length_cons, List.length_nil, List.length_append, List.length_replicate, List.length_set, Int.toNat_natCast, and_true] at *; omega)) ?_ | refine LoopN.go ?_ | exact trivial | refine AltVC.mk ?_ ?_ | refine HeldVC.mk rfl ?_ | refine CallVC.pure h1 rfl ?_ | refine OpVC.more tt_ok ?_ | refine RestVC.ext tt_ok ?_)); all_goals (conv => whnf)
    all_goals exact RetVC.res (by rw [← hr]; simp [vb]) rfl

def freeAskF (w kind : Tx) : Int := if lineOf w 10 then freeF w kind else 0
end Go.Proofs.YtblihaicbhdbdaaDoor.X
