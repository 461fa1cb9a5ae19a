/- Games: who wins, outcomes, comparing. No condition beyond each statement's. -/
import Derived.Test.YtjpabjmcooiflaaDoorWinK
namespace Go.Proofs.YtjpabjmcooiflaaDoor.X
open Go.Proofs
set_option maxRecDepth 100000
set_option linter.unusedVariables false
set_option linter.unusedSimpArgs false

theorem sumOk_ok {ls : List Tx} (h : sumOkF ls = true) : okLs ls ∧ 1 ≤ ls.length ∧ ls.all (fun w => lineOf w 10) = true := by
  simp only [sumOkF, Bool.and_eq_true, decide_eq_true_eq] at h
  refine ⟨⟨fun w hw => line_ok (List.all_eq_true.1 h.2.1 w hw), by omega, by omega⟩, by omega, h.2.1⟩

theorem gaSum_spec (ls : List Tx) (hl : ls.length ≤ 1048576) (hc : ∀ w ∈ ls, w.length ≤ 1048576) : Spec Tryd.prog 54 [.c (.sl 1000)] [(1000, .sl 9 1 (strE ls))]
    (isRes [vb (sumOkF ls)] [(1000, .sl 9 1 (strE ls))]) := by
  have hml := strE_len ls
  refine Spec.of_wpx tt_ok Tryd.func54 (by kernel_rfl) rfl ?_
  have h1 := l1In_spec (ls.length : Int) 1 3
  by_cases hin : 1 ≤ (ls.length : Int) ∧ (ls.length : Int) ≤ 3
  · rw [decide_eq_true hin] at h1
    rw [← hml] at h1
    (repeat' ((conv => whnf); first | refine CondVC.t ?_ | refine CondVC.f ?_ | refine CondVC.dec (fun h => ?_) (fun h => ?_) | refine CondVC.ndec (fun h => ?_) (fun h => ?_) | refine CondVC.mk (fun h => ?_) (fun h => ?_) | refine ArVC.i64 (by omega) ?_ | refine SideVC.mk (by first | omega | decide | (simp [slS]; done) | (simp [slS]; omega) | (simp only [byteE_len, mvE_len, strE_len, intE_len, esC_len, List.length_cons, List.length_nil, List.length_append, List.length_replicate, List.length_set, Int.toNat_natCast, and_true] at *; omega)) ?_ | refine LoopN.go ?_ | exact trivial | refine AltVC.mk ?_ ?_ | refine HeldVC.mk rfl ?_ | refine CallVC.pure h1 rfl ?_ | refine OpVC.more tt_ok ?_ | refine RestVC.ext tt_ok ?_)); all_goals (conv => whnf)
    refine LoopVC.mk (G := Nat) (fun k => ⟨[(12, .v (i64 k)), (11, .v (i64 ls.length)), (10, .v (.c (.sl 1000))), (3, .v (i64 (sumF (ls.take k) : Nat)))], [(1000, .sl 9 1 (strE ls))]⟩)
      (fun k => k ≤ ls.length ∧ (∀ j (hj : j < ls.length), j < k → lineOf ls[j] 10 = true) ∧ sumF (ls.take k) ≤ 10 * k) (fun k => ls.length - k) 0 ⟨by omega, fun j hj h => by omega, by simp [sumF]⟩ (Sub.mk [] _ ⟨rfl, by rw [hml]; rfl, rfl, rfl, trivial⟩ rfl rfl) ?_
    intro k ⟨hk, hn, hsum⟩
    by_cases hlt : k < ls.length
    · have g1 : (strE ls)[(k : Int).toNat]? = some [.str ls[k]] := by rw [Int.toNat_natCast]; exact strE_get hlt
      have h1 := gaFew_spec ls[k] (hc _ (List.getElem_mem hlt))
      have hst := sumF_take hlt
      cases hq : lineOf ls[k] 10 with
      | true =>
        rw [hq] at h1
        have hkl := line_len hq
        (repeat' ((conv => whnf); first | refine CondVC.t ?_ | refine CondVC.f ?_ | refine CondVC.dec (fun h => ?_) (fun h => ?_) | refine CondVC.ndec (fun h => ?_) (fun h => ?_) | refine CondVC.mk (fun h => ?_) (fun h => ?_) | refine ArVC.i64 (by omega) ?_ | refine SideVC.mk (by first | omega | decide | (simp [slS]; done) | (simp [slS]; omega) | (simp only [byteE_len, mvE_len, strE_len, intE_len, esC_len, List.length_cons, List.length_nil, List.length_append, List.length_replicate, List.length_set, Int.toNat_natCast, and_true] at *; omega)) ?_ | refine LoopN.go ?_ | exact trivial | refine AltVC.mk ?_ ?_ | refine HeldVC.mk rfl ?_ | refine LoadVC.mk _ g1 ?_ | refine SideVC.mk (by rw [hml]; omega) ?_ | refine CallVC.pure h1 rfl ?_ | refine OpVC.more tt_ok ?_ | refine RestVC.ext tt_ok ?_)); all_goals (conv => whnf)
        all_goals first
          | (exfalso; omega)
          | exact ⟨k + 1, ⟨by omega, fun j hj h => by
              by_cases e : j = k
              · subst e; exact hq
              · exact hn j hj (by omega), by omega⟩, by omega, Sub.mk [] _ ⟨rfl, rfl, rfl, by rw [hst]; exact congrArg (fun z => some (E.v (i64 z))) (show ((sumF (ls.take k) : Nat) : Int) + (ls[k].length : Int) = ((sumF (ls.take k) + ls[k].length : Nat) : Int) by omega), trivial⟩ rfl rfl⟩
      | false =>
        rw [hq] at h1
        have hall : ls.all (fun w => lineOf w 10) = false := by
          rw [List.all_eq_false]; exact ⟨_, List.getElem_mem hlt, by rw [hq]; simp⟩
        (repeat' ((conv => whnf); first | refine CondVC.t ?_ | refine CondVC.f ?_ | refine CondVC.dec (fun h => ?_) (fun h => ?_) | refine CondVC.ndec (fun h => ?_) (fun h => ?_) | refine CondVC.mk (fun h => ?_) (fun h => ?_) | refine ArVC.i64 (by omega) ?_ | refine SideVC.mk (by first | omega | decide | (simp [slS]; done) | (simp [slS]; omega) | (simp only [byteE_len, mvE_len, strE_len, intE_len, esC_len, List.length_cons, List.length_nil, List.length_append, List.length_replicate, List.length_set, Int.toNat_natCast, and_true] at *; omega)) ?_ | refine LoopN.go ?_ | exact trivial | refine AltVC.mk ?_ ?_ | refine HeldVC.mk rfl ?_ | refine LoadVC.mk _ g1 ?_ | refine SideVC.mk (by rw [hml]; omega) ?_ | refine CallVC.pure h1 rfl ?_ | refine OpVC.more tt_ok ?_ | refine RestVC.ext tt_ok ?_)); all_goals (conv => whnf)
        all_goals first
          | (exfalso; omega)
          | exact RetVC.res (by simp [sumOkF, hall, vb]) rfl
    · have hall : ls.all (fun w => lineOf w 10) = true := by
        rw [List.all_eq_true]; intro x hx
        obtain ⟨j, hj, rfl⟩ := List.getElem_of_mem hx
        exact hn j hj (by omega)
      have ek : ls.take k = ls := List.take_of_length_le (by omega)
      rw [ek] at hsum ⊢
      (repeat' ((conv => whnf); first | refine CondVC.t ?_ | refine CondVC.f ?_ | refine CondVC.dec (fun h => ?_) (fun h => ?_) | refine CondVC.ndec (fun h => ?_) (fun h => ?_) | refine CondVC.mk (fun h => ?_) (fun h => ?_) | refine ArVC.i64 (by omega) ?_ | refine SideVC.mk (by first | omega | decide | (simp [slS]; done) | (simp [slS]; omega) | (simp only [byteE_len, mvE_len, strE_len, intE_len, esC_len, List.length_cons, List.length_nil, List.length_append, List.length_replicate, List.length_set, Int.toNat_natCast, and_true] at *; omega)) ?_ | refine LoopN.go ?_ | exact trivial | refine AltVC.mk ?_ ?_ | refine HeldVC.mk rfl ?_ | refine OpVC.more tt_ok ?_ | refine RestVC.ext tt_ok ?_)); all_goals (conv => whnf)
      all_goals first
        | (exfalso; omega)
        | exact RetVC.res (by simp [sumOkF, hall, hin, vb]) rfl
  · rw [decide_eq_false hin] at h1
    rw [← hml] at h1
    (repeat' ((conv => whnf); first | refine CondVC.t ?_ | refine CondVC.f ?_ | refine CondVC.dec (fun h => ?_) (fun h => ?_) | refine CondVC.ndec (fun h => ?_) (fun h => ?_) | refine CondVC.mk (fun h => ?_) (fun h => ?_) | refine ArVC.i64 (by omega) ?_ | refine SideVC.mk (by first | omega | decide | (simp [slS]; done) | (simp [slS]; omega) | (simp only [byteE_len, mvE_len, strE_len, intE_len, esC_len, List.length_cons, List.length_nil, List.length_append, List.length_replicate, List.length_set, Int.toNat_natCast, and_true] at *; omega)) ?_ | refine LoopN.go ?_ | exact trivial | refine AltVC.mk ?_ ?_ | refine HeldVC.mk rfl ?_ | refine CallVC.pure h1 rfl ?_ | refine OpVC.more tt_ok ?_ | refine RestVC.ext tt_ok ?_)); all_goals (conv => whnf)
    all_goals exact RetVC.res (by simp only [sumOkF, decide_eq_false hin]; rfl) rfl

theorem game_all (ls : List Tx) (t : Bool) (h : okLs ls) : GameS ls t := game_spec (wayF (joinF ls) + 1) ls t (by omega) h

theorem gaOutcome_spec (ls : List Tx) (h : okLs ls) : Spec Tryd.prog 53 [.c (.sl 1000)] [(1000, .sl 9 1 (strE ls))]
    (isRes [.c (.str (outF (winF (joinF ls) true) (winF (joinF ls) false)))] [(1000, .sl 9 1 (strE ls))]) := by
  have h1 := game_all ls true h ([], []) okKn_nil
  have h2 := game_all ls false h
  unfold GameS at h2
  generalize winF (joinF ls) true = a at *
  generalize winF (joinF ls) false = b at *
  unfold knM knR at *
  have h1 := Spec.renE [(1000, 7), (1003, 1000), (1001, 2001), (1002, 2002), (1011, 2011), (1012, 2012)] [(7, 1000), (1000, 1003), (2001, 1001), (2002, 1002), (2011, 1011), (2012, 1012)] h1 (fun _ => rfl) (fun _ => rfl) rfl
  have h2 := fun x hx => Spec.renE [(1000, 7), (1003, 1000), (1001, 2011), (1002, 2012), (1011, 2021), (1012, 2022)] [(7, 1000), (1000, 1003), (2011, 1001), (2012, 1002), (2021, 1011), (2022, 1012)] (h2 x hx) (fun _ => rfl) (fun _ => rfl) rfl
  refine Spec.of_wpx tt_ok Tryd.func53 (by kernel_rfl) rfl ?_
  cases a <;> cases b
  all_goals
    (repeat' ((conv => whnf); first | refine CondVC.t ?_ | refine CondVC.f ?_ | refine CondVC.dec (fun h => ?_) (fun h => ?_) | refine CondVC.ndec (fun h => ?_) (fun h => ?_) | refine CondVC.mk (fun h => ?_) (fun h => ?_) | refine ArVC.i64 (by omega) ?_ | refine SideVC.mk (by first | omega | decide | (simp [slS]; done) | (simp [slS]; omega) | (simp only [byteE_len, mvE_len, strE_len, intE_len, esC_len, List.length_cons, List.length_nil, List.length_append, List.length_replicate, List.length_set, Int.toNat_natCast, and_true] at *; omega)) ?_ | refine LoopN.go ?_ | exact trivial | refine AltVC.mk ?_ ?_ | refine HeldVC.mk rfl ?_ | (refine CallVC.nil 2001 9 1 [.c (.ptr 7 0), .c (.sl 1000), vb true] [(7, .box 61 [.sl 2001, .val (.slice none 0 0)]), (1000, .sl 9 1 (strE ls))] rfl rfl rfl ?_; refine CallVC.nil 2002 4 1 [.c (.ptr 7 0), .c (.sl 1000), vb true] [(2001, .sl 9 1 []), (7, .box 61 [.sl 2001, .sl 2002]), (1000, .sl 9 1 (strE ls))] rfl rfl rfl ?_; refine CallVC.ex [7, 2001, 2002, 1000] rfl h1 ?_; intro x1 hx1; refine ⟨rfl, ?_⟩) | (refine CallVC.ex [7, 2011, 2012, 1000] rfl (h2 x1 hx1.1) ?_; intro x2 hx2; refine ⟨rfl, ?_⟩) | refine OpVC.more tt_ok ?_ | refine RestVC.ext tt_ok ?_)); all_goals (conv => whnf)
    all_goals exact RetVC.res rfl rfl

/-! ### Who moving first wins -/
theorem joinF_one (w : Tx) : joinF [w] = w := rfl
theorem sumOk_one (w : Tx) : sumOkF [w] = lineOf w 10 := by
  unfold sumOkF sumF
  cases h : lineOf w 10 with
  | true => have := line_len h; simp [h]; omega
  | false => simp [h]
theorem okLs_one {w : Tx} (h : lineOf w 10 = true) : okLs [w] := (sumOk_ok (by rw [sumOk_one]; exact h)).1
def winAskF (ls : List Tx) (t : Bool) : Bool := sumOkF ls && winF (joinF ls) t

theorem implWinsSum_spec (ls : List Tx) (t : Bool) (hl : ls.length ≤ 1048576) (hc : ∀ w ∈ ls, w.length ≤ 1048576) : Spec Tryd.prog 27 [.c (.sl 1000), vb t] [(1000, .sl 9 1 (strE ls))]
    (isRes [vb (winAskF ls t), vb (sumOkF ls)] [(1000, .sl 9 1 (strE ls))]) := by
  have h1 := sumOf_spec ls hl hc
  unfold winAskF
  refine Spec.of_wpx tt_ok Tryd.func27 (by kernel_rfl) rfl ?_
  cases hq : sumOkF ls with
  | true =>
    obtain ⟨hok, h2, hall⟩ := sumOk_ok hq
    rw [hq, if_pos hall] at h1
    have hjl := joinF_len ls
    have h3 := winS_all (joinF ls) t (by have := hok.2.1; have := hok.2.2; omega) [] okWin_nil
    generalize winF (joinF ls) t = a at *
    generalize joinF ls = j at *
    (repeat' ((conv => whnf); first | refine CondVC.t ?_ | refine CondVC.f ?_ | refine CondVC.dec (fun h => ?_) (fun h => ?_) | refine CondVC.ndec (fun h => ?_) (fun h => ?_) | refine CondVC.mk (fun h => ?_) (fun h => ?_) | refine ArVC.i64 (by omega) ?_ | refine SideVC.mk (by first | omega | decide | (simp [slS]; done) | (simp [slS]; omega) | (simp only [byteE_len, mvE_len, strE_len, intE_len, esC_len, List.length_cons, List.length_nil, List.length_append, List.length_replicate, List.length_set, Int.toNat_natCast, and_true] at *; omega)) ?_ | refine LoopN.go ?_ | exact trivial | refine AltVC.mk ?_ ?_ | refine HeldVC.mk rfl ?_ | refine CallVC.res [1000] rfl h1 rfl ?_ | refine CallVC.res [] rfl (Spec.ren [(1000, 2000)] [(2000, 1000)] newGames_spec rfl rfl rfl) rfl ?_ | (refine CallVC.ex [2000] rfl (Spec.renE [(1000, 2000)] [(2000, 1000)] h3 (fun _ => rfl) (fun _ => rfl) rfl) ?_; intro x hx; refine ⟨rfl, ?_⟩) | refine OpVC.more tt_ok ?_ | refine RestVC.ext tt_ok ?_)); all_goals (conv => whnf)
    all_goals exact RetVC.res rfl rfl
  | false =>
    rw [hq] at h1
    generalize (if ls.all (fun w => lineOf w 10) then joinF ls else []) = j at *
    (repeat' ((conv => whnf); first | refine CondVC.t ?_ | refine CondVC.f ?_ | refine CondVC.dec (fun h => ?_) (fun h => ?_) | refine CondVC.ndec (fun h => ?_) (fun h => ?_) | refine CondVC.mk (fun h => ?_) (fun h => ?_) | refine ArVC.i64 (by omega) ?_ | refine SideVC.mk (by first | omega | decide | (simp [slS]; done) | (simp [slS]; omega) | (simp only [byteE_len, mvE_len, strE_len, intE_len, esC_len, List.length_cons, List.length_nil, List.length_append, List.length_replicate, List.length_set, Int.toNat_natCast, and_true] at *; omega)) ?_ | refine LoopN.go ?_ | exact trivial | refine AltVC.mk ?_ ?_ | refine HeldVC.mk rfl ?_ | refine CallVC.res [1000] rfl h1 rfl ?_ | refine OpVC.more tt_ok ?_ | refine RestVC.ext tt_ok ?_)); all_goals (conv => whnf)
    all_goals exact RetVC.res rfl rfl
theorem implWinsMoving_spec (w : Tx) (t : Bool) (hw : w.length ≤ 1048576) : Spec Tryd.prog 19 [.c (.str w), vb t] [] (isRes [vb (winAskF [w] t), vb (lineOf w 10)] []) := by
  have h1 := implWinsSum_spec [w] t (by simp) (by simpa using hw)
  rw [sumOk_one] at h1
  have h1 := Spec.ren [(1000, 7)] [(7, 1000)] h1 rfl rfl rfl
  generalize winAskF [w] t = a at *
  refine Spec.of_wpx tt_ok Tryd.func19 (by kernel_rfl) rfl ?_
  (repeat' ((conv => whnf); first | refine CondVC.t ?_ | refine CondVC.f ?_ | refine CondVC.dec (fun h => ?_) (fun h => ?_) | refine CondVC.ndec (fun h => ?_) (fun h => ?_) | refine CondVC.mk (fun h => ?_) (fun h => ?_) | refine ArVC.i64 (by omega) ?_ | refine SideVC.mk (by first | omega | decide | (simp [slS]; done) | (simp [slS]; omega) | (simp only [byteE_len, mvE_len, strE_len, intE_len, esC_len, List.length_cons, List.length_nil, List.length_append, List.length_replicate, List.length_set, Int.toNat_natCast, and_true] at *; omega)) ?_ | refine LoopN.go ?_ | exact trivial | refine AltVC.mk ?_ ?_ | refine HeldVC.mk rfl ?_ | refine CallVC.res [7] rfl h1 rfl ?_ | refine OpVC.more tt_ok ?_ | refine RestVC.ext tt_ok ?_)); all_goals (conv => whnf)
  all_goals exact RetVC.res rfl rfl
theorem specWinsMoving_spec (w : Tx) (t : Bool) (hw : w.length ≤ 1048576) : Spec Tryd.prog 18 [.c (.str w), vb t] [] (isRes [vb (winAskF [w] t), vb (lineOf w 10)] []) := by
  have h1 := gaFew_spec w hw
  unfold winAskF
  rw [sumOk_one]
  refine Spec.of_wpx tt_ok Tryd.func18 (by kernel_rfl) rfl ?_
  cases hq : lineOf w 10 with
  | true =>
    rw [hq] at h1
    have h2 := game_all [w] t (okLs_one hq) ([], []) okKn_nil
    generalize winF (joinF [w]) t = a at *
    unfold knM knR at *
    have h2 := Spec.renE [(1000, 10), (1003, 12), (1001, 2001), (1002, 2002), (1011, 2011), (1012, 2012)] [(10, 1000), (12, 1003), (2001, 1001), (2002, 1002), (2011, 1011), (2012, 1012)] h2 (fun _ => rfl) (fun _ => rfl) rfl
    (repeat' ((conv => whnf); first | refine CondVC.t ?_ | refine CondVC.f ?_ | refine CondVC.dec (fun h => ?_) (fun h => ?_) | refine CondVC.ndec (fun h => ?_) (fun h => ?_) | refine CondVC.mk (fun h => ?_) (fun h => ?_) | refine ArVC.i64 (by omega) ?_ | refine SideVC.mk (by first | omega | decide | (simp [slS]; done) | (simp [slS]; omega) | (simp only [byteE_len, mvE_len, strE_len, intE_len, esC_len, List.length_cons, List.length_nil, List.length_append, List.length_replicate, List.length_set, Int.toNat_natCast, and_true] at *; omega)) ?_ | refine LoopN.go ?_ | exact trivial | refine AltVC.mk ?_ ?_ | refine HeldVC.mk rfl ?_ | refine CallVC.pure h1 rfl ?_ | (refine CallVC.nil 2001 9 1 [.c (.ptr 10 0), .c (.sl 12), vb t] [(12, .sl 9 1 (strE [w])), (10, .box 61 [.sl 2001, .val (.slice none 0 0)])] rfl rfl rfl ?_; refine CallVC.nil 2002 4 1 [.c (.ptr 10 0), .c (.sl 12), vb t] [(2001, .sl 9 1 []), (12, .sl 9 1 (strE [w])), (10, .box 61 [.sl 2001, .sl 2002])] rfl rfl rfl ?_; refine CallVC.ex [10, 2001, 2002, 12] rfl h2 ?_; intro x1 hx1; refine ⟨rfl, ?_⟩) | refine OpVC.more tt_ok ?_ | refine RestVC.ext tt_ok ?_)); all_goals (conv => whnf)
    all_goals exact RetVC.res rfl rfl
  | false =>
    rw [hq] at h1
    (repeat' ((conv => whnf); first | refine CondVC.t ?_ | refine CondVC.f ?_ | refine CondVC.dec (fun h => ?_) (fun h => ?_) | refine CondVC.ndec (fun h => ?_) (fun h => ?_) | refine CondVC.mk (fun h => ?_) (fun h => ?_) | refine ArVC.i64 (by omega) ?_ | refine SideVC.mk (by first | omega | decide | (simp [slS]; done) | (simp [slS]; omega) | (simp only [byteE_len, mvE_len, strE_len, intE_len, esC_len, List.length_cons, List.length_nil, List.length_append, List.length_replicate, List.length_set, Int.toNat_natCast, and_true] at *; omega)) ?_ | refine LoopN.go ?_ | exact trivial | refine AltVC.mk ?_ ?_ | refine HeldVC.mk rfl ?_ | refine CallVC.pure h1 rfl ?_ | refine OpVC.more tt_ok ?_ | refine RestVC.ext tt_ok ?_)); all_goals (conv => whnf)
    all_goals exact RetVC.res rfl rfl
theorem lawWinsMoving_spec (w : Tx) (hw : w.length ≤ 9223372036854775807) (t : Bool) : Spec Tryd.prog 5 [.c (.str w), vb t] [] (isRes [vb true] []) := by
  refine Spec.of_wpx tt_ok Tryd.func5 (by kernel_rfl) rfl ?_
  (repeat' ((conv => whnf); first | refine CondVC.t ?_ | refine CondVC.f ?_ | refine CondVC.dec (fun h => ?_) (fun h => ?_) | refine CondVC.ndec (fun h => ?_) (fun h => ?_) | refine CondVC.mk (fun h => ?_) (fun h => ?_) | refine ArVC.i64 (by omega) ?_ | refine SideVC.mk (by first | omega | decide | (simp [slS]; done) | (simp [slS]; omega) | (simp only [byteE_len, mvE_len, strE_len, intE_len, esC_len, List.length_cons, List.length_nil, List.length_append, List.length_replicate, List.length_set, Int.toNat_natCast, and_true] at *; omega)) ?_ | refine LoopN.go ?_ | exact trivial | refine AltVC.mk ?_ ?_ | refine HeldVC.mk rfl ?_ | refine CallVC.pure (specWinsMoving_spec w t (by omega)) rfl ?_ | refine CallVC.pure (implWinsMoving_spec w t (by omega)) rfl ?_ | refine OpVC.more tt_ok ?_ | refine RestVC.ext tt_ok ?_)); all_goals (conv => whnf)
  all_goals first | exact RetVC.res rfl rfl | (exfalso; simp_all; done)

/-! ### Outcomes -/
def outAskF (ls : List Tx) : Tx := if sumOkF ls then outF (winF (joinF ls) true) (winF (joinF ls) false) else []
theorem implOutcomeOfSum_spec (ls : List Tx) (hl : ls.length ≤ 1048576) (hc : ∀ w ∈ ls, w.length ≤ 1048576) : Spec Tryd.prog 30 [.c (.sl 1000)] [(1000, .sl 9 1 (strE ls))]
    (isRes [.c (.str (outAskF ls)), vb (sumOkF ls)] [(1000, .sl 9 1 (strE ls))]) := by
  have h1 := sumOf_spec ls hl hc
  unfold outAskF
  refine Spec.of_wpx tt_ok Tryd.func30 (by kernel_rfl) rfl ?_
  cases hq : sumOkF ls with
  | true =>
    obtain ⟨hok, h2, hall⟩ := sumOk_ok hq
    rw [hq, if_pos hall] at h1
    have hjl := joinF_len ls
    have h3 := outcome_spec (joinF ls) (by have := hok.2.1; have := hok.2.2; omega)
    rw [if_pos rfl]
    generalize outF (winF (joinF ls) true) (winF (joinF ls) false) = a at *
    generalize joinF ls = j at *
    (repeat' ((conv => whnf); first | refine CondVC.t ?_ | refine CondVC.f ?_ | refine CondVC.dec (fun h => ?_) (fun h => ?_) | refine CondVC.ndec (fun h => ?_) (fun h => ?_) | refine CondVC.mk (fun h => ?_) (fun h => ?_) | refine ArVC.i64 (by omega) ?_ | refine SideVC.mk (by first | omega | decide | (simp [slS]; done) | (simp [slS]; omega) | (simp only [byteE_len, mvE_len, strE_len, intE_len, esC_len, List.length_cons, List.length_nil, List.length_append, List.length_replicate, List.length_set, Int.toNat_natCast, and_true] at *; omega)) ?_ | refine LoopN.go ?_ | exact trivial | refine AltVC.mk ?_ ?_ | refine HeldVC.mk rfl ?_ | refine CallVC.res [1000] rfl h1 rfl ?_ | refine CallVC.res [] rfl (Spec.ren [(1000, 2000)] [(2000, 1000)] newGames_spec rfl rfl rfl) rfl ?_ | (refine CallVC.ex [2000] rfl (Spec.renE [(1000, 2000)] [(2000, 1000)] h3 (fun _ => rfl) (fun _ => rfl) rfl) ?_; intro x hx; refine ⟨rfl, ?_⟩) | refine OpVC.more tt_ok ?_ | refine RestVC.ext tt_ok ?_)); all_goals (conv => whnf)
    all_goals exact RetVC.res rfl rfl
  | false =>
    rw [hq] at h1
    generalize (if ls.all (fun w => lineOf w 10) then joinF ls else []) = j at *
    (repeat' ((conv => whnf); first | refine CondVC.t ?_ | refine CondVC.f ?_ | refine CondVC.dec (fun h => ?_) (fun h => ?_) | refine CondVC.ndec (fun h => ?_) (fun h => ?_) | refine CondVC.mk (fun h => ?_) (fun h => ?_) | refine ArVC.i64 (by omega) ?_ | refine SideVC.mk (by first | omega | decide | (simp [slS]; done) | (simp [slS]; omega) | (simp only [byteE_len, mvE_len, strE_len, intE_len, esC_len, List.length_cons, List.length_nil, List.length_append, List.length_replicate, List.length_set, Int.toNat_natCast, and_true] at *; omega)) ?_ | refine LoopN.go ?_ | exact trivial | refine AltVC.mk ?_ ?_ | refine HeldVC.mk rfl ?_ | refine CallVC.res [1000] rfl h1 rfl ?_ | refine OpVC.more tt_ok ?_ | refine RestVC.ext tt_ok ?_)); all_goals (conv => whnf)
    all_goals exact RetVC.res rfl rfl
theorem implOutcomeOf_spec (w : Tx) (hw : w.length ≤ 1048576) : Spec Tryd.prog 21 [.c (.str w)] [] (isRes [.c (.str (outAskF [w])), vb (lineOf w 10)] []) := by
  have h1 := implOutcomeOfSum_spec [w] (by simp) (by simpa using hw)
  rw [sumOk_one] at h1
  have h1 := Spec.ren [(1000, 5)] [(5, 1000)] h1 rfl rfl rfl
  generalize outAskF [w] = a at *
  refine Spec.of_wpx tt_ok Tryd.func21 (by kernel_rfl) rfl ?_
  (repeat' ((conv => whnf); first | refine CondVC.t ?_ | refine CondVC.f ?_ | refine CondVC.dec (fun h => ?_) (fun h => ?_) | refine CondVC.ndec (fun h => ?_) (fun h => ?_) | refine CondVC.mk (fun h => ?_) (fun h => ?_) | refine ArVC.i64 (by omega) ?_ | refine SideVC.mk (by first | omega | decide | (simp [slS]; done) | (simp [slS]; omega) | (simp only [byteE_len, mvE_len, strE_len, intE_len, esC_len, List.length_cons, List.length_nil, List.length_append, List.length_replicate, List.length_set, Int.toNat_natCast, and_true] at *; omega)) ?_ | refine LoopN.go ?_ | exact trivial | refine AltVC.mk ?_ ?_ | refine HeldVC.mk rfl ?_ | refine CallVC.res [5] rfl h1 rfl ?_ | refine OpVC.more tt_ok ?_ | refine RestVC.ext tt_ok ?_)); all_goals (conv => whnf)
  all_goals exact RetVC.res rfl rfl
theorem specOutcomeOf_spec (w : Tx) (hw : w.length ≤ 1048576) : Spec Tryd.prog 20 [.c (.str w)] [] (isRes [.c (.str (outAskF [w])), vb (lineOf w 10)] []) := by
  have h1 := gaFew_spec w hw
  unfold outAskF
  rw [sumOk_one]
  refine Spec.of_wpx tt_ok Tryd.func20 (by kernel_rfl) rfl ?_
  cases hq : lineOf w 10 with
  | true =>
    rw [hq] at h1
    have h2 := Spec.ren [(1000, 8)] [(8, 1000)] (gaOutcome_spec [w] (okLs_one hq)) rfl rfl rfl
    rw [if_pos rfl]
    generalize outF (winF (joinF [w]) true) (winF (joinF [w]) false) = a at *
    (repeat' ((conv => whnf); first | refine CondVC.t ?_ | refine CondVC.f ?_ | refine CondVC.dec (fun h => ?_) (fun h => ?_) | refine CondVC.ndec (fun h => ?_) (fun h => ?_) | refine CondVC.mk (fun h => ?_) (fun h => ?_) | refine ArVC.i64 (by omega) ?_ | refine SideVC.mk (by first | omega | decide | (simp [slS]; done) | (simp [slS]; omega) | (simp only [byteE_len, mvE_len, strE_len, intE_len, esC_len, List.length_cons, List.length_nil, List.length_append, List.length_replicate, List.length_set, Int.toNat_natCast, and_true] at *; omega)) ?_ | refine LoopN.go ?_ | exact trivial | refine AltVC.mk ?_ ?_ | refine HeldVC.mk rfl ?_ | refine CallVC.pure h1 rfl ?_ | refine CallVC.res [8] rfl h2 rfl ?_ | refine OpVC.more tt_ok ?_ | refine RestVC.ext tt_ok ?_)); all_goals (conv => whnf)
    all_goals exact RetVC.res rfl rfl
  | false =>
    rw [hq] at h1
    (repeat' ((conv => whnf); first | refine CondVC.t ?_ | refine CondVC.f ?_ | refine CondVC.dec (fun h => ?_) (fun h => ?_) | refine CondVC.ndec (fun h => ?_) (fun h => ?_) | refine CondVC.mk (fun h => ?_) (fun h => ?_) | refine ArVC.i64 (by omega) ?_ | refine SideVC.mk (by first | omega | decide | (simp [slS]; done) | (simp [slS]; omega) | (simp only [byteE_len, mvE_len, strE_len, intE_len, esC_len, List.length_cons, List.length_nil, List.length_append, List.length_replicate, List.length_set, Int.toNat_natCast, and_true] at *; omega)) ?_ | refine LoopN.go ?_ | exact trivial | refine AltVC.mk ?_ ?_ | refine HeldVC.mk rfl ?_ | refine CallVC.pure h1 rfl ?_ | refine OpVC.more tt_ok ?_ | refine RestVC.ext tt_ok ?_)); all_goals (conv => whnf)
    all_goals exact RetVC.res rfl rfl
theorem lawOutcomeOf_spec (w : Tx) (hw : w.length ≤ 9223372036854775807) : Spec Tryd.prog 6 [.c (.str w)] [] (isRes [vb true] []) := by
  refine Spec.of_wpx tt_ok Tryd.func6 (by kernel_rfl) rfl ?_
  (repeat' ((conv => whnf); first | refine CondVC.t ?_ | refine CondVC.f ?_ | refine CondVC.dec (fun h => ?_) (fun h => ?_) | refine CondVC.ndec (fun h => ?_) (fun h => ?_) | refine CondVC.mk (fun h => ?_) (fun h => ?_) | refine ArVC.i64 (by omega) ?_ | refine SideVC.mk (by first | omega | decide | (simp [slS]; done) | (simp [slS]; omega) | (simp only [byteE_len, mvE_len, strE_len, intE_len, esC_len, List.length_cons, List.length_nil, List.length_append, List.length_replicate, List.length_set, Int.toNat_natCast, and_true] at *; omega)) ?_ | refine LoopN.go ?_ | exact trivial | refine AltVC.mk ?_ ?_ | refine HeldVC.mk rfl ?_ | refine CallVC.pure (specOutcomeOf_spec w (by omega)) rfl ?_ | refine CallVC.pure (implOutcomeOf_spec w (by omega)) rfl ?_ | refine OpVC.more tt_ok ?_ | refine RestVC.ext tt_ok ?_)); all_goals (conv => whnf)
  all_goals first | exact RetVC.res rfl rfl | (exfalso; simp_all; done)

theorem implIsNothing_spec (w : Tx) (hw : w.length ≤ 1048576) : Spec Tryd.prog 23 [.c (.str w)] [] (isRes [vb (decide (outAskF [w] = [50])), vb (lineOf w 10)] []) := by
  have h1 := implOutcomeOf_spec w hw
  generalize outAskF [w] = a at *
  refine Spec.of_wpx tt_ok Tryd.func23 (by kernel_rfl) rfl ?_
  (repeat' ((conv => whnf); first | refine CondVC.t ?_ | refine CondVC.f ?_ | refine CondVC.dec (fun h => ?_) (fun h => ?_) | refine CondVC.ndec (fun h => ?_) (fun h => ?_) | refine CondVC.mk (fun h => ?_) (fun h => ?_) | refine ArVC.i64 (by omega) ?_ | refine SideVC.mk (by first | omega | decide | (simp [slS]; done) | (simp [slS]; omega) | (simp only [byteE_len, mvE_len, strE_len, intE_len, esC_len, List.length_cons, List.length_nil, List.length_append, List.length_replicate, List.length_set, Int.toNat_natCast, and_true] at *; omega)) ?_ | refine LoopN.go ?_ | exact trivial | refine AltVC.mk ?_ ?_ | refine HeldVC.mk rfl ?_ | refine CallVC.pure h1 rfl ?_ | refine OpVC.more tt_ok ?_ | refine RestVC.ext tt_ok ?_)); all_goals (conv => whnf)
  all_goals exact RetVC.res rfl rfl
theorem specIsNothing_spec (w : Tx) (hw : w.length ≤ 1048576) : Spec Tryd.prog 22 [.c (.str w)] [] (isRes [vb (decide (outAskF [w] = [50])), vb (lineOf w 10)] []) := by
  have h1 := gaFew_spec w hw
  unfold outAskF
  rw [sumOk_one]
  refine Spec.of_wpx tt_ok Tryd.func22 (by kernel_rfl) rfl ?_
  cases hq : lineOf w 10 with
  | true =>
    rw [hq] at h1
    have h2 := Spec.ren [(1000, 8)] [(8, 1000)] (gaOutcome_spec [w] (okLs_one hq)) rfl rfl rfl
    rw [if_pos rfl]
    generalize outF (winF (joinF [w]) true) (winF (joinF [w]) false) = a at *
    (repeat' ((conv => whnf); first | refine CondVC.t ?_ | refine CondVC.f ?_ | refine CondVC.dec (fun h => ?_) (fun h => ?_) | refine CondVC.ndec (fun h => ?_) (fun h => ?_) | refine CondVC.mk (fun h => ?_) (fun h => ?_) | refine ArVC.i64 (by omega) ?_ | refine SideVC.mk (by first | omega | decide | (simp [slS]; done) | (simp [slS]; omega) | (simp only [byteE_len, mvE_len, strE_len, intE_len, esC_len, List.length_cons, List.length_nil, List.length_append, List.length_replicate, List.length_set, Int.toNat_natCast, and_true] at *; omega)) ?_ | refine LoopN.go ?_ | exact trivial | refine AltVC.mk ?_ ?_ | refine HeldVC.mk rfl ?_ | refine CallVC.pure h1 rfl ?_ | refine CallVC.res [8] rfl h2 rfl ?_ | refine OpVC.more tt_ok ?_ | refine RestVC.ext tt_ok ?_)); all_goals (conv => whnf)
    all_goals exact RetVC.res rfl rfl
  | false =>
    rw [hq] at h1
    (repeat' ((conv => whnf); first | refine CondVC.t ?_ | refine CondVC.f ?_ | refine CondVC.dec (fun h => ?_) (fun h => ?_) | refine CondVC.ndec (fun h => ?_) (fun h => ?_) | refine CondVC.mk (fun h => ?_) (fun h => ?_) | refine ArVC.i64 (by omega) ?_ | refine SideVC.mk (by first | omega | decide | (simp [slS]; done) | (simp [slS]; omega) | (simp only [byteE_len, mvE_len, strE_len, intE_len, esC_len, List.length_cons, List.length_nil, List.length_append, List.length_replicate, List.length_set, Int.toNat_natCast, and_true] at *; omega)) ?_ | refine LoopN.go ?_ | exact trivial | refine AltVC.mk ?_ ?_ | refine HeldVC.mk rfl ?_ | refine CallVC.pure h1 rfl ?_ | refine OpVC.more tt_ok ?_ | refine RestVC.ext tt_ok ?_)); all_goals (conv => whnf)
    all_goals exact RetVC.res rfl rfl
theorem lawIsNothing_spec (w : Tx) (hw : w.length ≤ 9223372036854775807) : Spec Tryd.prog 7 [.c (.str w)] [] (isRes [vb true] []) := by
  refine Spec.of_wpx tt_ok Tryd.func7 (by kernel_rfl) rfl ?_
  by_cases hb : w.length ≤ 1048576
  · have h1 := specIsNothing_spec w hb
    have h2 := implIsNothing_spec w hb
    generalize decide (outAskF [w] = [50]) = a at *
    generalize lineOf w 10 = b at *
    (repeat' ((conv => whnf); first | refine CondVC.t ?_ | refine CondVC.f ?_ | refine CondVC.dec (fun h => ?_) (fun h => ?_) | refine CondVC.ndec (fun h => ?_) (fun h => ?_) | refine CondVC.mk (fun h => ?_) (fun h => ?_) | refine ArVC.i64 (by omega) ?_ | refine SideVC.mk (by first | omega | decide | (simp [slS]; done) | (simp [slS]; omega) | (simp only [byteE_len, mvE_len, strE_len, intE_len, esC_len, List.length_cons, List.length_nil, List.length_append, List.length_replicate, List.length_set, Int.toNat_natCast, and_true] at *; omega)) ?_ | refine LoopN.go ?_ | exact trivial | refine AltVC.mk ?_ ?_ | refine HeldVC.mk rfl ?_ | refine CallVC.pure h1 rfl ?_ | refine CallVC.pure h2 rfl ?_ | refine OpVC.more tt_ok ?_ | refine RestVC.ext tt_ok ?_)); all_goals (conv => whnf)
    all_goals first | exact RetVC.res rfl rfl | (exfalso; simp_all; done) | (exfalso; omega)
  · (repeat' ((conv => whnf); first | refine CondVC.t ?_ | refine CondVC.f ?_ | refine CondVC.dec (fun h => ?_) (fun h => ?_) | refine CondVC.ndec (fun h => ?_) (fun h => ?_) | refine CondVC.mk (fun h => ?_) (fun h => ?_) | refine ArVC.i64 (by omega) ?_ | refine SideVC.mk (by first | omega | decide | (simp [slS]; done) | (simp [slS]; omega) | (simp only [byteE_len, mvE_len, strE_len, intE_len, esC_len, List.length_cons, List.length_nil, List.length_append, List.length_replicate, List.length_set, Int.toNat_natCast, and_true] at *; omega)) ?_ | refine LoopN.go ?_ | exact trivial | refine AltVC.mk ?_ ?_ | refine HeldVC.mk rfl ?_ | refine OpVC.more tt_ok ?_ | refine RestVC.ext tt_ok ?_)); all_goals (conv => whnf)
    all_goals first | exact RetVC.res rfl rfl | (exfalso; omega)
end Go.Proofs.YtjpabjmcooiflaaDoor.X
