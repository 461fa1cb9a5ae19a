/- Games: who wins, outcomes, comparing. No condition beyond each statement's. -/
import Derived.Test.YtmdipjoogcdngaaDoorWinK
namespace Go.Proofs.YtmdipjoogcdngaaDoor.X
open Go.Proofs
set_option maxRecDepth 100000
set_option linter.unusedVariables false
set_option linter.unusedSimpArgs false

theorem sumOk_ok {ls : List Tx} (h : sumOkF ls = true) : okLs ls ∧ 1 ≤ ls.length ∧ ls.all (fun w => lineOf w 10) = true := by
  simp only [sumOkF, Bool.and_eq_true, decide_eq_true_eq] at h
  refine ⟨⟨fun w hw => line_ok (List.all_eq_true.1 h.2.1 w hw), by omega, by omega⟩, by omega, h.2.1⟩


theorem game_all (ls : List Tx) (t : Bool) (h : okLs ls) : GameS ls t := game_spec (wayF (joinF ls) + 1) ls t (by omega) h

theorem gaOutcome_spec (ls : List Tx) (h : okLs ls) : Spec Tryd.prog 170 [.c (.sl 1000)] [(1000, .sl 9 1 (strE ls))]
    (isRes [.c (.str (outF (winF (joinF ls) true) (winF (joinF ls) false)))] [(1000, .sl 9 1 (strE ls))]) := by
  have h1 := game_all ls true h ([], []) okKn_nil
  have h2 := game_all ls false h
  unfold GameS at h2
  generalize winF (joinF ls) true = a at *
  generalize winF (joinF ls) false = b at *
  unfold knM knR at *
  have h1 := Spec.renE [(1000, 7), (1003, 1000), (1001, 2001), (1002, 2002), (1011, 2011), (1012, 2012)] [(7, 1000), (1000, 1003), (2001, 1001), (2002, 1002), (2011, 1011), (2012, 1012)] h1 (fun _ => rfl) (fun _ => rfl) rfl
  have h2 := fun x hx => Spec.renE [(1000, 7), (1003, 1000), (1001, 2011), (1002, 2012), (1011, 2021), (1012, 2022)] [(7, 1000), (1000, 1003), (2011, 1001), (2012, 1002), (2021, 1011), (2022, 1012)] (h2 x hx) (fun _ => rfl) (fun _ => rfl) rfl
  refine Spec.of_wpx tt_ok Tryd.func170 (by kernel_rfl) rfl ?_
  cases a <;> cases b
  all_goals
    (repeat' ((conv => whnf); first | refine CondVC.t ?_ | refine CondVC.f ?_ | refine CondVC.dec (fun h => ?_) (fun h => ?_) | refine CondVC.ndec (fun h => ?_) (fun h => ?_) | refine CondVC.mk (fun h => ?_) (fun h => ?_) | refine ArVC.i64 (by first | omega | (simp only; omega)) ?_ | refine SideVC.mk (by first | omega | decide | (simp only; omega) | (simp [slS]; done) | (simp [slS]; omega) | (simp only [byteE_len, mvE_len, strE_len, intE_len, esC_len, List.length_cons, List.length_nil, List.length_append, List.length_replicate, List.length_set, Int.toNat_natCast, and_true] at *; omega)) ?_ | refine LoopN.go ?_ | exact trivial | refine AltVC.mk ?_ ?_ | refine HeldVC.mk rfl ?_ | (refine CallVC.nil 2001 9 1 [.c (.ptr 7 0), .c (.sl 1000), vb true] [(7, .box 182 [.sl 2001, .val (.slice none 0 0)]), (1000, .sl 9 1 (strE ls))] rfl rfl rfl ?_; refine CallVC.nil 2002 4 1 [.c (.ptr 7 0), .c (.sl 1000), vb true] [(2001, .sl 9 1 []), (7, .box 182 [.sl 2001, .sl 2002]), (1000, .sl 9 1 (strE ls))] rfl rfl rfl ?_; refine CallVC.ex [7, 2001, 2002, 1000] rfl h1 ?_; intro x1 hx1; refine ⟨rfl, ?_⟩) | (refine CallVC.ex [7, 2011, 2012, 1000] rfl (h2 x1 hx1.1) ?_; intro x2 hx2; refine ⟨rfl, ?_⟩) | refine OpVC.more tt_ok ?_ | refine RestVC.ext tt_ok ?_)); all_goals (conv => whnf)
    all_goals exact RetVC.res rfl rfl

/-! ### Who moving first wins -/
theorem joinF_one (w : Tx) : joinF [w] = w := rfl
theorem sumOk_one (w : Tx) : sumOkF [w] = lineOf w 10 := by
  unfold sumOkF sumF
  cases h : lineOf w 10 with
  | true => have := line_len h; simp [h]; omega
  | false => simp [h]
theorem okLs_one {w : Tx} (h : lineOf w 10 = true) : okLs [w] := (sumOk_ok (by rw [sumOk_one]; exact h)).1
def winAskF (ls : List Tx) (t : Bool) : Bool := sumOkF ls && winF (joinF ls) t


/-! ### Outcomes -/
def outAskF (ls : List Tx) : Tx := if sumOkF ls then outF (winF (joinF ls) true) (winF (joinF ls) false) else []

end Go.Proofs.YtmdipjoogcdngaaDoor.X
