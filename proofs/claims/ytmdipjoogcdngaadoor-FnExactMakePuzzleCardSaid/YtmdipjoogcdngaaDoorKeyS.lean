/- A player's kind; a sum's key in the reference's memo. No condition beyond each statement's. -/
import Derived.Test.YtmdipjoogcdngaaDoorKeyF
import Derived.Test.YtmdipjoogcdngaaDoorKind
namespace Go.Proofs.YtmdipjoogcdngaaDoor.X
open Go.Proofs
set_option maxRecDepth 100000
set_option linter.unusedVariables false
set_option linter.unusedSimpArgs false

theorem kindOf_spec (t : Bool) : Spec Tryd.prog 209 [vb t] [] (isRes [.c (.str (kOf t))] []) := by
  refine Spec.of_wpx tt_ok Tryd.func209 (by kernel_rfl) rfl ?_
  cases t
  all_goals
    (repeat' ((conv => whnf); first | refine CondVC.t ?_ | refine CondVC.f ?_ | refine CondVC.dec (fun h => ?_) (fun h => ?_) | refine CondVC.ndec (fun h => ?_) (fun h => ?_) | refine CondVC.mk (fun h => ?_) (fun h => ?_) | refine ArVC.i64 (by first | omega | (simp only; omega)) ?_ | refine SideVC.mk (by first | omega | decide | (simp only; omega) | (simp [slS]; done) | (simp [slS]; omega) | (simp only [byteE_len, mvE_len, strE_len, intE_len, esC_len, List.length_cons, List.length_nil, List.length_append, List.length_replicate, List.length_set, Int.toNat_natCast, and_true] at *; omega)) ?_ | refine LoopN.go ?_ | exact trivial | refine AltVC.mk ?_ ?_ | refine HeldVC.mk rfl ?_ | refine OpVC.more tt_ok ?_ | refine RestVC.ext tt_ok ?_)); all_goals (conv => whnf)
    all_goals exact RetVC.res rfl rfl


def keyTo (t : Bool) (ls : List Tx) (k : Nat) : Tx := keyF t (ls.take k)
theorem keyTo_succ {t : Bool} {ls : List Tx} {k : Nat} (h : k < ls.length) : keyTo t ls (k + 1) = keyTo t ls k ++ (47 :: ls[k]) := by
  unfold keyTo keyF
  rw [List.take_succ_eq_append_getElem h, List.flatMap_append]
  simp
theorem keyTo_len (t : Bool) (ls : List Tx) (k : Nat) (h : okLs ls) : (keyTo t ls k).length ≤ 14 := by
  refine (keyF_ok (t := t) ?_).1
  refine ⟨fun w hw => h.1 w (List.mem_of_mem_take hw), ?_, by simp; have := h.2.2; omega⟩
  have : ∀ (l : List Tx) (n : Nat), sumF (l.take n) ≤ sumF l := by
    intro l
    induction l with
    | nil => intro n; simp
    | cons a l ih =>
      intro n
      cases n with
      | zero => simp [sumF]
      | succ n => have := ih n; simp only [List.take_succ_cons, sumF, List.map_cons, List.sum_cons] at this ⊢; omega
  have := this ls k
  have := h.2.1
  omega

theorem gaKey_spec (ls : List Tx) (t : Bool) (h : okLs ls) : Spec Tryd.prog 219 [.c (.sl 1003), vb t] [(1003, .sl 9 1 (strE ls))] (isRes [.c (.str (keyF t ls))] [(1003, .sl 9 1 (strE ls))]) := by
  have hml := strE_len ls
  have h3 := h.2.2
  have hend : keyTo t ls ls.length = keyF t ls := by unfold keyTo; rw [List.take_length]
  have h0 : keyTo t ls 0 = [if t then 116 else 102] := by unfold keyTo keyF; simp
  refine Spec.of_wpx tt_ok Tryd.func219 (by kernel_rfl) rfl ?_
  cases t
  all_goals
    (repeat' ((conv => whnf); first | refine CondVC.t ?_ | refine CondVC.f ?_ | refine CondVC.dec (fun h => ?_) (fun h => ?_) | refine CondVC.ndec (fun h => ?_) (fun h => ?_) | refine CondVC.mk (fun h => ?_) (fun h => ?_) | refine ArVC.i64 (by first | omega | (simp only; omega)) ?_ | refine SideVC.mk (by first | omega | decide | (simp only; omega) | (simp [slS]; done) | (simp [slS]; omega) | (simp only [byteE_len, mvE_len, strE_len, intE_len, esC_len, List.length_cons, List.length_nil, List.length_append, List.length_replicate, List.length_set, Int.toNat_natCast, and_true] at *; omega)) ?_ | refine LoopN.go ?_ | exact trivial | refine AltVC.mk ?_ ?_ | refine HeldVC.mk rfl ?_ | refine OpVC.more tt_ok ?_ | refine RestVC.ext tt_ok ?_)); all_goals (conv => whnf)
    refine LoopVC.mk (G := Nat) (fun k => ⟨[(11, .v (i64 k)), (10, .v (i64 ls.length)), (9, .v (.c (.sl 1003))), (5, .v (.c (.str (keyTo _ ls k))))], [(1003, .sl 9 1 (strE ls))]⟩)
      (fun k => k ≤ ls.length) (fun k => ls.length - k) 0 (by omega) (Sub.mk [] _ ⟨rfl, by rw [hml]; rfl, rfl, by rw [h0]; rfl, trivial⟩ rfl rfl) ?_
    intro k hk
    by_cases hlt : k < ls.length
    · have g1 : (strE ls)[(k : Int).toNat]? = some [.str ls[k]] := by rw [Int.toNat_natCast]; exact strE_get hlt
      have hs := fun t => keyTo_succ (t := t) hlt
      have hkl := fun t => keyTo_len t ls k h
      have hwl := sumF_mem (List.getElem_mem hlt)
      have hsl := h.2.1
      have hkt := hkl true
      have hkf := hkl false
      generalize ls[k] = w at *
      (repeat' ((conv => whnf); first | refine CondVC.t ?_ | refine CondVC.f ?_ | refine CondVC.dec (fun h => ?_) (fun h => ?_) | refine CondVC.ndec (fun h => ?_) (fun h => ?_) | refine CondVC.mk (fun h => ?_) (fun h => ?_) | refine ArVC.i64 (by first | omega | (simp only; omega)) ?_ | refine SideVC.mk (by first | omega | decide | (simp only; omega) | (simp [slS]; done) | (simp [slS]; omega) | (simp only [byteE_len, mvE_len, strE_len, intE_len, esC_len, List.length_cons, List.length_nil, List.length_append, List.length_replicate, List.length_set, Int.toNat_natCast, and_true] at *; omega)) ?_ | refine LoopN.go ?_ | exact trivial | refine AltVC.mk ?_ ?_ | refine HeldVC.mk rfl ?_ | refine LoadVC.mk _ g1 ?_ | refine SideVC.mk (by rw [hml]; omega) ?_ | refine SideVC.mk (by simp at *; omega) ?_ | refine OpVC.more tt_ok ?_ | refine RestVC.ext tt_ok ?_)); all_goals (conv => whnf)
      all_goals first
        | (exfalso; omega)
        | exact ⟨k + 1, by omega, by omega, Sub.mk [] _ ⟨rfl, rfl, rfl, by rw [hs]; rfl, trivial⟩ rfl rfl⟩
    · (repeat' ((conv => whnf); first | refine CondVC.t ?_ | refine CondVC.f ?_ | refine CondVC.dec (fun h => ?_) (fun h => ?_) | refine CondVC.ndec (fun h => ?_) (fun h => ?_) | refine CondVC.mk (fun h => ?_) (fun h => ?_) | refine ArVC.i64 (by first | omega | (simp only; omega)) ?_ | refine SideVC.mk (by first | omega | decide | (simp only; omega) | (simp [slS]; done) | (simp [slS]; omega) | (simp only [byteE_len, mvE_len, strE_len, intE_len, esC_len, List.length_cons, List.length_nil, List.length_append, List.length_replicate, List.length_set, Int.toNat_natCast, and_true] at *; omega)) ?_ | refine LoopN.go ?_ | exact trivial | refine AltVC.mk ?_ ?_ | refine HeldVC.mk rfl ?_ | refine OpVC.more tt_ok ?_ | refine RestVC.ext tt_ok ?_)); all_goals (conv => whnf)
      all_goals first
        | (exfalso; omega)
        | exact RetVC.res (by rw [← hend, show k = ls.length by omega]) rfl

end Go.Proofs.YtmdipjoogcdngaaDoor.X
