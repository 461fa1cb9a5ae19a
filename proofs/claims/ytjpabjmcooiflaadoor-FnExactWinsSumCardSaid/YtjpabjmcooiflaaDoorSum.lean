/- Sums of games: the laws over a slice of lines. No condition beyond each statement's. -/
import Derived.Test.YtjpabjmcooiflaaDoorCompare
namespace Go.Proofs.YtjpabjmcooiflaaDoor.X
open Go.Proofs
set_option maxRecDepth 100000
set_option linter.unusedVariables false
set_option linter.unusedSimpArgs false

def okSz (ls : List Tx) (r : Int) : Prop := (-9223372036854775808 ≤ r ∧ r ≤ 1048576) ∧ (r < 0 ∨ (ls.length ≤ 1048576 ∧ ∀ w ∈ ls, w.length ≤ 1048576))
theorem szStringS_spec (o : Obj) (ls : List Tx) (hl : ls.length ≤ 9223372036854775807) (hc : ∀ w ∈ ls, w.length ≤ 9223372036854775807) : Spec Tryd.prog 24 [.c (.sl 1000), i64 1048576] [(1000, .ro o 9 1 (strE ls))]
    (exRes (okSz ls) (fun r => [i64 r]) (fun _ => [(1000, .ro o 9 1 (strE ls))])) := by
  have hml := strE_len ls
  refine Spec.of_wpx tt_ok Tryd.func24 (by kernel_rfl) rfl ?_
  (repeat' ((conv => whnf); first | refine CondVC.t ?_ | refine CondVC.f ?_ | refine CondVC.dec (fun h => ?_) (fun h => ?_) | refine CondVC.ndec (fun h => ?_) (fun h => ?_) | refine CondVC.mk (fun h => ?_) (fun h => ?_) | refine ArVC.i64 (by first | omega | (simp only; omega)) ?_ | refine SideVC.mk (by first | omega | decide | (simp only; omega) | (simp [slS]; done) | (simp [slS]; omega) | (simp only [byteE_len, mvE_len, strE_len, intE_len, esC_len, List.length_cons, List.length_nil, List.length_append, List.length_replicate, List.length_set, Int.toNat_natCast, and_true] at *; omega)) ?_ | refine LoopN.go ?_ | exact trivial | refine AltVC.mk ?_ ?_ | refine HeldVC.mk rfl ?_ | refine OpVC.more tt_ok ?_ | refine RestVC.ext tt_ok ?_)); all_goals (conv => whnf)
  · exact RetVC.mk rfl ⟨-1, ⟨by omega, .inl (by omega)⟩, rfl, rfl⟩
  refine LoopVC.mk (G := Nat × Int) (fun g => ⟨[(5, .v (i64 g.1)), (1, .v (i64 g.2)), (0, .v (.c (.sl 1000)))], [(1000, .ro o 9 1 (strE ls))]⟩)
    (fun g => g.1 ≤ ls.length ∧ (0 ≤ g.2 ∧ g.2 ≤ 1048576) ∧ ∀ j (hj : j < ls.length), j < g.1 → ls[j].length ≤ 1048576) (fun g => ls.length - g.1) (0, 1048576 - (ls.length : Int)) ⟨by omega, by rw [hml] at *; omega, fun j hj h => by simp at h⟩ (Sub.mk [] _ ⟨rfl, by rw [hml]; rfl, rfl, trivial⟩ rfl rfl) ?_
  rintro ⟨k, r⟩ ⟨hk, hr, hall⟩
  simp only at hk hr hall
  by_cases hlt : k < ls.length
  · have g1 : (strE ls)[(k : Int).toNat]? = some [.str ls[k]] := by rw [Int.toNat_natCast]; exact strE_get hlt
    have hck := hc _ (List.getElem_mem hlt)
    (repeat' ((conv => whnf); first | refine CondVC.t ?_ | refine CondVC.f ?_ | refine CondVC.dec (fun h => ?_) (fun h => ?_) | refine CondVC.ndec (fun h => ?_) (fun h => ?_) | refine CondVC.mk (fun h => ?_) (fun h => ?_) | refine ArVC.i64 (by first | omega | (simp only; omega)) ?_ | refine SideVC.mk (by first | omega | decide | (simp only; omega) | (simp [slS]; done) | (simp [slS]; omega) | (simp only [byteE_len, mvE_len, strE_len, intE_len, esC_len, List.length_cons, List.length_nil, List.length_append, List.length_replicate, List.length_set, Int.toNat_natCast, and_true] at *; omega)) ?_ | refine LoopN.go ?_ | exact trivial | refine AltVC.mk ?_ ?_ | refine HeldVC.mk rfl ?_ | refine LoadVC.mk _ g1 ?_ | refine SideVC.mk (by rw [hml]; omega) ?_ | refine OpVC.more tt_ok ?_ | refine RestVC.ext tt_ok ?_)); all_goals (conv => whnf)
    all_goals first
      | (exfalso; omega)
      | exact RetVC.mk rfl ⟨-1, ⟨by omega, .inl (by omega)⟩, rfl, rfl⟩
      | exact ⟨(k + 1, r - (ls[k].length : Int)), ⟨by omega, by omega, fun j hj h => by
          by_cases e : j = k
          · subst e; omega
          · exact hall j hj (by omega)⟩, by simp only; omega, Sub.mk [] _ ⟨rfl, rfl, rfl, trivial⟩ rfl rfl⟩
  · (repeat' ((conv => whnf); first | refine CondVC.t ?_ | refine CondVC.f ?_ | refine CondVC.dec (fun h => ?_) (fun h => ?_) | refine CondVC.ndec (fun h => ?_) (fun h => ?_) | refine CondVC.mk (fun h => ?_) (fun h => ?_) | refine ArVC.i64 (by first | omega | (simp only; omega)) ?_ | refine SideVC.mk (by first | omega | decide | (simp only; omega) | (simp [slS]; done) | (simp [slS]; omega) | (simp only [byteE_len, mvE_len, strE_len, intE_len, esC_len, List.length_cons, List.length_nil, List.length_append, List.length_replicate, List.length_set, Int.toNat_natCast, and_true] at *; omega)) ?_ | refine LoopN.go ?_ | exact trivial | refine AltVC.mk ?_ ?_ | refine HeldVC.mk rfl ?_ | refine OpVC.more tt_ok ?_ | refine RestVC.ext tt_ok ?_)); all_goals (conv => whnf)
    all_goals first
      | (exfalso; omega)
      | exact RetVC.mk rfl ⟨r, ⟨by omega, .inr ⟨by rw [hml] at *; omega, fun w hw => by
          obtain ⟨j, hj, rfl⟩ := List.getElem_of_mem hw
          exact hall j hj (by omega)⟩⟩, rfl, rfl⟩

def partS (ls : List Tx) (k : Nat) : List (List C) := strE (ls.take k) ++ List.replicate (ls.length - k) [.str []]
theorem partS_len {ls : List Tx} {k : Nat} (h : k ≤ ls.length) : (partS ls k).length = ls.length := by simp [partS, strE]; omega
theorem partS_get {ls : List Tx} {k : Nat} (h : k < ls.length) : (partS ls k)[k]? = some [.str []] := by
  unfold partS
  rw [List.getElem?_append_right (by simp [strE]; omega), List.getElem?_replicate, if_pos (by simp [strE]; omega)]
theorem partS_set {ls : List Tx} {k : Nat} (h : k < ls.length) : (partS ls k).set k [.str ls[k]] = partS ls (k + 1) := by
  unfold partS
  have h2 : strE (ls.take (k + 1)) = strE (ls.take k) ++ [[.str ls[k]]] := by rw [List.take_succ_eq_append_getElem h, strE_append]; rfl
  have h1 : (strE (ls.take k)).length = k := by simp [strE]; omega
  rw [List.set_append_right _ _ (by omega), h1, Nat.sub_self, show ls.length - k = (ls.length - (k + 1)) + 1 by omega, List.replicate_succ, List.set_cons_zero, h2, List.append_assoc]
  rfl
theorem toStringS_spec (o : Obj) (ls : List Tx) (hl : ls.length ≤ 1048576) : Spec Tryd.prog 26 [.c (.sl 1000)] [(1000, .ro o 9 1 (strE ls))]
    (isRes [.c (.sl 1001)] [(1000, .ro o 9 1 (strE ls)), (1001, .sl 9 1 (strE ls))]) := by
  have hml := strE_len ls
  have h0 : partS ls 0 = List.replicate ls.length [.str []] := by simp [partS, strE]
  have hend : partS ls ls.length = strE ls := by simp [partS]
  refine Spec.of_wpx tt_ok Tryd.func26 (by kernel_rfl) rfl ?_
  (repeat' ((conv => whnf); first | refine CondVC.t ?_ | refine CondVC.f ?_ | refine CondVC.dec (fun h => ?_) (fun h => ?_) | refine CondVC.ndec (fun h => ?_) (fun h => ?_) | refine CondVC.mk (fun h => ?_) (fun h => ?_) | refine ArVC.i64 (by first | omega | (simp only; omega)) ?_ | refine SideVC.mk (by first | omega | decide | (simp only; omega) | (simp [slS]; done) | (simp [slS]; omega) | (simp only [byteE_len, mvE_len, strE_len, intE_len, esC_len, List.length_cons, List.length_nil, List.length_append, List.length_replicate, List.length_set, Int.toNat_natCast, and_true] at *; omega)) ?_ | refine LoopN.go ?_ | exact trivial | refine AltVC.mk ?_ ?_ | refine HeldVC.mk rfl ?_ | refine OpVC.more tt_ok ?_ | refine RestVC.ext tt_ok ?_)); all_goals (conv => whnf)
  refine LoopVC.mk (G := Nat) (fun k => ⟨[(4, .v (i64 k)), (3, .v (.c (.sl 1001))), (0, .v (.c (.sl 1000)))], [(1000, .ro o 9 1 (strE ls)), (1001, .sl 9 1 (partS ls k))]⟩)
    (fun k => k ≤ ls.length) (fun k => ls.length - k) 0 (by omega) (Sub.mk [(1001, 7)] [] ⟨rfl, rfl, rfl, trivial⟩ (by rw [h0, ← hml]; rfl) rfl) ?_
  intro k hk
  have hpl := partS_len hk
  by_cases hlt : k < ls.length
  · have g1 : (strE ls)[(k : Int).toNat]? = some [.str ls[k]] := by rw [Int.toNat_natCast]; exact strE_get hlt
    have g2 : (partS ls k)[(k : Int).toNat]? = some [.str []] := by rw [Int.toNat_natCast]; exact partS_get hlt
    have hset := partS_set hlt
    (repeat' ((conv => whnf); first | refine CondVC.t ?_ | refine CondVC.f ?_ | refine CondVC.dec (fun h => ?_) (fun h => ?_) | refine CondVC.ndec (fun h => ?_) (fun h => ?_) | refine CondVC.mk (fun h => ?_) (fun h => ?_) | refine ArVC.i64 (by first | omega | (simp only; omega)) ?_ | refine SideVC.mk (by first | omega | decide | (simp only; omega) | (simp [slS]; done) | (simp [slS]; omega) | (simp only [byteE_len, mvE_len, strE_len, intE_len, esC_len, List.length_cons, List.length_nil, List.length_append, List.length_replicate, List.length_set, Int.toNat_natCast, and_true] at *; omega)) ?_ | refine LoopN.go ?_ | exact trivial | refine AltVC.mk ?_ ?_ | refine HeldVC.mk rfl ?_ | refine LoadVC.mk _ g1 ?_ | refine LoadVC.mk _ g2 ?_ | refine SideVC.mk (by rw [hml]; omega) ?_ | refine SideVC.mk (by rw [hpl]; omega) ?_ | refine OpVC.more tt_ok ?_ | refine RestVC.ext tt_ok ?_)); all_goals (conv => whnf)
    all_goals first
      | (exfalso; omega)
      | exact ⟨k + 1, by omega, by omega, Sub.mk [] [] ⟨rfl, rfl, rfl, trivial⟩ (by rw [← hset]; rfl) rfl⟩
  · (repeat' ((conv => whnf); first | refine CondVC.t ?_ | refine CondVC.f ?_ | refine CondVC.dec (fun h => ?_) (fun h => ?_) | refine CondVC.ndec (fun h => ?_) (fun h => ?_) | refine CondVC.mk (fun h => ?_) (fun h => ?_) | refine ArVC.i64 (by first | omega | (simp only; omega)) ?_ | refine SideVC.mk (by first | omega | decide | (simp only; omega) | (simp [slS]; done) | (simp [slS]; omega) | (simp only [byteE_len, mvE_len, strE_len, intE_len, esC_len, List.length_cons, List.length_nil, List.length_append, List.length_replicate, List.length_set, Int.toNat_natCast, and_true] at *; omega)) ?_ | refine LoopN.go ?_ | exact trivial | refine AltVC.mk ?_ ?_ | refine HeldVC.mk rfl ?_ | refine OpVC.more tt_ok ?_ | refine RestVC.ext tt_ok ?_)); all_goals (conv => whnf)
    all_goals first
      | (exfalso; omega)
      | exact RetVC.res rfl (by rw [← hend, show k = ls.length by omega]; rfl)

theorem eqStringS_spec (ls : List Tx) (hl : ls.length ≤ 1048576) : Spec Tryd.prog 28 [.c (.sl 1000), .c (.sl 1001)] [(1000, .sl 9 1 (strE ls)), (1001, .sl 9 1 (strE ls))]
    (isRes [vb true] [(1000, .sl 9 1 (strE ls)), (1001, .sl 9 1 (strE ls))]) := by
  have hml := strE_len ls
  refine Spec.of_wpx tt_ok Tryd.func28 (by kernel_rfl) rfl ?_
  (repeat' ((conv => whnf); first | refine CondVC.t ?_ | refine CondVC.f ?_ | refine CondVC.dec (fun h => ?_) (fun h => ?_) | refine CondVC.ndec (fun h => ?_) (fun h => ?_) | refine CondVC.mk (fun h => ?_) (fun h => ?_) | refine ArVC.i64 (by first | omega | (simp only; omega)) ?_ | refine SideVC.mk (by first | omega | decide | (simp only; omega) | (simp [slS]; done) | (simp [slS]; omega) | (simp only [byteE_len, mvE_len, strE_len, intE_len, esC_len, List.length_cons, List.length_nil, List.length_append, List.length_replicate, List.length_set, Int.toNat_natCast, and_true] at *; omega)) ?_ | refine LoopN.go ?_ | exact trivial | refine AltVC.mk ?_ ?_ | refine HeldVC.mk rfl ?_ | refine OpVC.more tt_ok ?_ | refine RestVC.ext tt_ok ?_)); all_goals (conv => whnf)
  · exfalso; simp_all
  refine LoopVC.mk (G := Nat) (fun k => ⟨[(5, .v (i64 k)), (1, .v (.c (.sl 1001))), (0, .v (.c (.sl 1000)))], [(1000, .sl 9 1 (strE ls)), (1001, .sl 9 1 (strE ls))]⟩)
    (fun k => k ≤ ls.length) (fun k => ls.length - k) 0 (by omega) (Sub.mk [] [] ⟨rfl, rfl, rfl, trivial⟩ rfl rfl) ?_
  intro k hk
  by_cases hlt : k < ls.length
  · have g1 : (strE ls)[(k : Int).toNat]? = some [.str ls[k]] := by rw [Int.toNat_natCast]; exact strE_get hlt
    (repeat' ((conv => whnf); first | refine CondVC.t ?_ | refine CondVC.f ?_ | refine CondVC.dec (fun h => ?_) (fun h => ?_) | refine CondVC.ndec (fun h => ?_) (fun h => ?_) | refine CondVC.mk (fun h => ?_) (fun h => ?_) | refine ArVC.i64 (by first | omega | (simp only; omega)) ?_ | refine SideVC.mk (by first | omega | decide | (simp only; omega) | (simp [slS]; done) | (simp [slS]; omega) | (simp only [byteE_len, mvE_len, strE_len, intE_len, esC_len, List.length_cons, List.length_nil, List.length_append, List.length_replicate, List.length_set, Int.toNat_natCast, and_true] at *; omega)) ?_ | refine LoopN.go ?_ | exact trivial | refine AltVC.mk ?_ ?_ | refine HeldVC.mk rfl ?_ | refine DrawVC.quiet tt_ok (by kernel_rfl) (by kernel_rfl) ?_ | refine LoadVC.mk _ g1 ?_ | refine SideVC.mk (by rw [hml]; omega) ?_ | refine OpVC.more tt_ok ?_ | refine RestVC.ext tt_ok ?_)); all_goals (conv => whnf)
    all_goals first
      | (exfalso; omega)
      | (exfalso; simp_all; done)
      | exact ⟨k + 1, by omega, by omega, Sub.mk [] [] ⟨rfl, rfl, rfl, trivial⟩ rfl rfl⟩
  · (repeat' ((conv => whnf); first | refine CondVC.t ?_ | refine CondVC.f ?_ | refine CondVC.dec (fun h => ?_) (fun h => ?_) | refine CondVC.ndec (fun h => ?_) (fun h => ?_) | refine CondVC.mk (fun h => ?_) (fun h => ?_) | refine ArVC.i64 (by first | omega | (simp only; omega)) ?_ | refine SideVC.mk (by first | omega | decide | (simp only; omega) | (simp [slS]; done) | (simp [slS]; omega) | (simp only [byteE_len, mvE_len, strE_len, intE_len, esC_len, List.length_cons, List.length_nil, List.length_append, List.length_replicate, List.length_set, Int.toNat_natCast, and_true] at *; omega)) ?_ | refine LoopN.go ?_ | exact trivial | refine AltVC.mk ?_ ?_ | refine HeldVC.mk rfl ?_ | refine OpVC.more tt_ok ?_ | refine RestVC.ext tt_ok ?_)); all_goals (conv => whnf)
    all_goals first
      | (exfalso; omega)
      | exact RetVC.res rfl rfl

theorem specWinsSum_spec (ls : List Tx) (t : Bool) (hl : ls.length ≤ 1048576) (hc : ∀ w ∈ ls, w.length ≤ 1048576) : Spec Tryd.prog 25 [.c (.sl 1000), vb t] [(1000, .sl 9 1 (strE ls))]
    (isRes [vb (winAskF ls t), vb (sumOkF ls)] [(1000, .sl 9 1 (strE ls))]) := by
  have h1 := gaSum_spec ls hl hc
  unfold winAskF
  refine Spec.of_wpx tt_ok Tryd.func25 (by kernel_rfl) rfl ?_
  cases hq : sumOkF ls with
  | true =>
    rw [hq] at h1
    have h2 := game_all ls t (sumOk_ok hq).1 ([], []) okKn_nil
    generalize winF (joinF ls) t = a at *
    unfold knM knR at *
    have h2 := Spec.renE [(1000, 10), (1003, 1000), (1001, 2001), (1002, 2002), (1011, 2011), (1012, 2012)] [(10, 1000), (1000, 1003), (2001, 1001), (2002, 1002), (2011, 1011), (2012, 1012)] h2 (fun _ => rfl) (fun _ => rfl) rfl
    (repeat' ((conv => whnf); first | refine CondVC.t ?_ | refine CondVC.f ?_ | refine CondVC.dec (fun h => ?_) (fun h => ?_) | refine CondVC.ndec (fun h => ?_) (fun h => ?_) | refine CondVC.mk (fun h => ?_) (fun h => ?_) | refine ArVC.i64 (by first | omega | (simp only; omega)) ?_ | refine SideVC.mk (by first | omega | decide | (simp only; omega) | (simp [slS]; done) | (simp [slS]; omega) | (simp only [byteE_len, mvE_len, strE_len, intE_len, esC_len, List.length_cons, List.length_nil, List.length_append, List.length_replicate, List.length_set, Int.toNat_natCast, and_true] at *; omega)) ?_ | refine LoopN.go ?_ | exact trivial | refine AltVC.mk ?_ ?_ | refine HeldVC.mk rfl ?_ | refine CallVC.res [1000] rfl h1 rfl ?_ | (refine CallVC.nil 2001 9 1 [.c (.ptr 10 0), .c (.sl 1000), vb t] [(10, .box 61 [.sl 2001, .val (.slice none 0 0)]), (1000, .sl 9 1 (strE ls))] rfl rfl rfl ?_; refine CallVC.nil 2002 4 1 [.c (.ptr 10 0), .c (.sl 1000), vb t] [(2001, .sl 9 1 []), (10, .box 61 [.sl 2001, .sl 2002]), (1000, .sl 9 1 (strE ls))] rfl rfl rfl ?_; refine CallVC.ex [10, 2001, 2002, 1000] rfl h2 ?_; intro x1 hx1; refine ⟨rfl, ?_⟩) | refine OpVC.more tt_ok ?_ | refine RestVC.ext tt_ok ?_)); all_goals (conv => whnf)
    all_goals exact RetVC.res rfl rfl
  | false =>
    rw [hq] at h1
    (repeat' ((conv => whnf); first | refine CondVC.t ?_ | refine CondVC.f ?_ | refine CondVC.dec (fun h => ?_) (fun h => ?_) | refine CondVC.ndec (fun h => ?_) (fun h => ?_) | refine CondVC.mk (fun h => ?_) (fun h => ?_) | refine ArVC.i64 (by first | omega | (simp only; omega)) ?_ | refine SideVC.mk (by first | omega | decide | (simp only; omega) | (simp [slS]; done) | (simp [slS]; omega) | (simp only [byteE_len, mvE_len, strE_len, intE_len, esC_len, List.length_cons, List.length_nil, List.length_append, List.length_replicate, List.length_set, Int.toNat_natCast, and_true] at *; omega)) ?_ | refine LoopN.go ?_ | exact trivial | refine AltVC.mk ?_ ?_ | refine HeldVC.mk rfl ?_ | refine CallVC.res [1000] rfl h1 rfl ?_ | refine OpVC.more tt_ok ?_ | refine RestVC.ext tt_ok ?_)); all_goals (conv => whnf)
    all_goals exact RetVC.res rfl rfl
theorem specOutcomeOfSum_spec (ls : List Tx) (hl : ls.length ≤ 1048576) (hc : ∀ w ∈ ls, w.length ≤ 1048576) : Spec Tryd.prog 29 [.c (.sl 1000)] [(1000, .sl 9 1 (strE ls))]
    (isRes [.c (.str (outAskF ls)), vb (sumOkF ls)] [(1000, .sl 9 1 (strE ls))]) := by
  have h1 := gaSum_spec ls hl hc
  unfold outAskF
  refine Spec.of_wpx tt_ok Tryd.func29 (by kernel_rfl) rfl ?_
  cases hq : sumOkF ls with
  | true =>
    rw [hq] at h1
    have h2 := gaOutcome_spec ls (sumOk_ok hq).1
    rw [if_pos rfl]
    generalize outF (winF (joinF ls) true) (winF (joinF ls) false) = a at *
    (repeat' ((conv => whnf); first | refine CondVC.t ?_ | refine CondVC.f ?_ | refine CondVC.dec (fun h => ?_) (fun h => ?_) | refine CondVC.ndec (fun h => ?_) (fun h => ?_) | refine CondVC.mk (fun h => ?_) (fun h => ?_) | refine ArVC.i64 (by first | omega | (simp only; omega)) ?_ | refine SideVC.mk (by first | omega | decide | (simp only; omega) | (simp [slS]; done) | (simp [slS]; omega) | (simp only [byteE_len, mvE_len, strE_len, intE_len, esC_len, List.length_cons, List.length_nil, List.length_append, List.length_replicate, List.length_set, Int.toNat_natCast, and_true] at *; omega)) ?_ | refine LoopN.go ?_ | exact trivial | refine AltVC.mk ?_ ?_ | refine HeldVC.mk rfl ?_ | refine CallVC.res [1000] rfl h1 rfl ?_ | refine CallVC.res [1000] rfl h2 rfl ?_ | refine OpVC.more tt_ok ?_ | refine RestVC.ext tt_ok ?_)); all_goals (conv => whnf)
    all_goals exact RetVC.res rfl rfl
  | false =>
    rw [hq] at h1
    (repeat' ((conv => whnf); first | refine CondVC.t ?_ | refine CondVC.f ?_ | refine CondVC.dec (fun h => ?_) (fun h => ?_) | refine CondVC.ndec (fun h => ?_) (fun h => ?_) | refine CondVC.mk (fun h => ?_) (fun h => ?_) | refine ArVC.i64 (by first | omega | (simp only; omega)) ?_ | refine SideVC.mk (by first | omega | decide | (simp only; omega) | (simp [slS]; done) | (simp [slS]; omega) | (simp only [byteE_len, mvE_len, strE_len, intE_len, esC_len, List.length_cons, List.length_nil, List.length_append, List.length_replicate, List.length_set, Int.toNat_natCast, and_true] at *; omega)) ?_ | refine LoopN.go ?_ | exact trivial | refine AltVC.mk ?_ ?_ | refine HeldVC.mk rfl ?_ | refine CallVC.res [1000] rfl h1 rfl ?_ | refine OpVC.more tt_ok ?_ | refine RestVC.ext tt_ok ?_)); all_goals (conv => whnf)
    all_goals exact RetVC.res rfl rfl

theorem lawWinsSum_spec (o : Obj) (ls : List Tx) (t : Bool) (hl : ls.length ≤ 9223372036854775807) (hc : ∀ w ∈ ls, w.length ≤ 9223372036854775807) : Spec Tryd.prog 8 [.c (.sl 1000), vb t] [(1000, .ro o 9 1 (strE ls))]
    (isRes [vb true] [(1000, .ro o 9 1 (strE ls))]) := by
  have hsz := szStringS_spec o ls hl hc
  refine Spec.of_wpx tt_ok Tryd.func8 (by kernel_rfl) rfl ?_
  by_cases hb : ls.length ≤ 1048576 ∧ ∀ w ∈ ls, w.length ≤ 1048576
  · have hto := toStringS_spec o ls hb.1
    have h1 := specWinsSum_spec ls t hb.1 hb.2
    have h2 := implWinsSum_spec ls t hb.1 hb.2
    have h3 := eqStringS_spec ls hb.1
    generalize winAskF ls t = a at *
    generalize sumOkF ls = b at *
    (repeat' ((conv => whnf); first | refine CondVC.t ?_ | refine CondVC.f ?_ | refine CondVC.dec (fun h => ?_) (fun h => ?_) | refine CondVC.ndec (fun h => ?_) (fun h => ?_) | refine CondVC.mk (fun h => ?_) (fun h => ?_) | refine ArVC.i64 (by first | omega | (simp only; omega)) ?_ | refine SideVC.mk (by first | omega | decide | (simp only; omega) | (simp [slS]; done) | (simp [slS]; omega) | (simp only [byteE_len, mvE_len, strE_len, intE_len, esC_len, List.length_cons, List.length_nil, List.length_append, List.length_replicate, List.length_set, Int.toNat_natCast, and_true] at *; omega)) ?_ | refine LoopN.go ?_ | exact trivial | refine AltVC.mk ?_ ?_ | refine HeldVC.mk rfl ?_ | (refine CallVC.ex [1000] rfl hsz ?_; intro r hr; refine ⟨rfl, ?_⟩) | refine CallVC.res [1000] rfl (Spec.ren [(1001, 2001)] [(2001, 1001)] hto rfl rfl rfl) rfl ?_ | refine CallVC.res [1000] rfl (Spec.ren [(1001, 2002)] [(2002, 1001)] hto rfl rfl rfl) rfl ?_ | refine CallVC.res [1000] rfl (Spec.ren [(1001, 2003)] [(2003, 1001)] hto rfl rfl rfl) rfl ?_ | refine CallVC.res [2001] rfl (Spec.ren [(1000, 2001)] [(2001, 1000)] h1 rfl rfl rfl) rfl ?_ | refine CallVC.res [2002] rfl (Spec.ren [(1000, 2002)] [(2002, 1000)] h2 rfl rfl rfl) rfl ?_ | refine CallVC.res [2002, 2003] rfl (Spec.ren [(1000, 2002), (1001, 2003)] [(2002, 1000), (2003, 1001)] h3 rfl rfl rfl) rfl ?_ | refine OpVC.more tt_ok ?_ | refine RestVC.ext tt_ok ?_)); all_goals (conv => whnf)
    all_goals first | exact RetVC.res rfl rfl | (exfalso; simp_all; done)
  · (repeat' ((conv => whnf); first | refine CondVC.t ?_ | refine CondVC.f ?_ | refine CondVC.dec (fun h => ?_) (fun h => ?_) | refine CondVC.ndec (fun h => ?_) (fun h => ?_) | refine CondVC.mk (fun h => ?_) (fun h => ?_) | refine ArVC.i64 (by first | omega | (simp only; omega)) ?_ | refine SideVC.mk (by first | omega | decide | (simp only; omega) | (simp [slS]; done) | (simp [slS]; omega) | (simp only [byteE_len, mvE_len, strE_len, intE_len, esC_len, List.length_cons, List.length_nil, List.length_append, List.length_replicate, List.length_set, Int.toNat_natCast, and_true] at *; omega)) ?_ | refine LoopN.go ?_ | exact trivial | refine AltVC.mk ?_ ?_ | refine HeldVC.mk rfl ?_ | (refine CallVC.ex [1000] rfl hsz ?_; intro r hr; refine ⟨rfl, ?_⟩) | refine OpVC.more tt_ok ?_ | refine RestVC.ext tt_ok ?_)); all_goals (conv => whnf)
    all_goals first
      | exact RetVC.res rfl rfl
      | (exfalso; rcases hr.2 with h | h; omega; exact hb h)
theorem lawOutcomeOfSum_spec (o : Obj) (ls : List Tx) (hl : ls.length ≤ 9223372036854775807) (hc : ∀ w ∈ ls, w.length ≤ 9223372036854775807) : Spec Tryd.prog 9 [.c (.sl 1000)] [(1000, .ro o 9 1 (strE ls))]
    (isRes [vb true] [(1000, .ro o 9 1 (strE ls))]) := by
  have hsz := szStringS_spec o ls hl hc
  refine Spec.of_wpx tt_ok Tryd.func9 (by kernel_rfl) rfl ?_
  by_cases hb : ls.length ≤ 1048576 ∧ ∀ w ∈ ls, w.length ≤ 1048576
  · have hto := toStringS_spec o ls hb.1
    have h1 := specOutcomeOfSum_spec ls hb.1 hb.2
    have h2 := implOutcomeOfSum_spec ls hb.1 hb.2
    have h3 := eqStringS_spec ls hb.1
    generalize outAskF ls = a at *
    generalize sumOkF ls = b at *
    (repeat' ((conv => whnf); first | refine CondVC.t ?_ | refine CondVC.f ?_ | refine CondVC.dec (fun h => ?_) (fun h => ?_) | refine CondVC.ndec (fun h => ?_) (fun h => ?_) | refine CondVC.mk (fun h => ?_) (fun h => ?_) | refine ArVC.i64 (by first | omega | (simp only; omega)) ?_ | refine SideVC.mk (by first | omega | decide | (simp only; omega) | (simp [slS]; done) | (simp [slS]; omega) | (simp only [byteE_len, mvE_len, strE_len, intE_len, esC_len, List.length_cons, List.length_nil, List.length_append, List.length_replicate, List.length_set, Int.toNat_natCast, and_true] at *; omega)) ?_ | refine LoopN.go ?_ | exact trivial | refine AltVC.mk ?_ ?_ | refine HeldVC.mk rfl ?_ | (refine CallVC.ex [1000] rfl hsz ?_; intro r hr; refine ⟨rfl, ?_⟩) | refine CallVC.res [1000] rfl (Spec.ren [(1001, 2001)] [(2001, 1001)] hto rfl rfl rfl) rfl ?_ | refine CallVC.res [1000] rfl (Spec.ren [(1001, 2002)] [(2002, 1001)] hto rfl rfl rfl) rfl ?_ | refine CallVC.res [1000] rfl (Spec.ren [(1001, 2003)] [(2003, 1001)] hto rfl rfl rfl) rfl ?_ | refine CallVC.res [2001] rfl (Spec.ren [(1000, 2001)] [(2001, 1000)] h1 rfl rfl rfl) rfl ?_ | refine CallVC.res [2002] rfl (Spec.ren [(1000, 2002)] [(2002, 1000)] h2 rfl rfl rfl) rfl ?_ | refine CallVC.res [2002, 2003] rfl (Spec.ren [(1000, 2002), (1001, 2003)] [(2002, 1000), (2003, 1001)] h3 rfl rfl rfl) rfl ?_ | refine OpVC.more tt_ok ?_ | refine RestVC.ext tt_ok ?_)); all_goals (conv => whnf)
    all_goals first | exact RetVC.res rfl rfl | (exfalso; simp_all; done)
  · (repeat' ((conv => whnf); first | refine CondVC.t ?_ | refine CondVC.f ?_ | refine CondVC.dec (fun h => ?_) (fun h => ?_) | refine CondVC.ndec (fun h => ?_) (fun h => ?_) | refine CondVC.mk (fun h => ?_) (fun h => ?_) | refine ArVC.i64 (by first | omega | (simp only; omega)) ?_ | refine SideVC.mk (by first | omega | decide | (simp only; omega) | (simp [slS]; done) | (simp [slS]; omega) | (simp only [byteE_len, mvE_len, strE_len, intE_len, esC_len, List.length_cons, List.length_nil, List.length_append, List.length_replicate, List.length_set, Int.toNat_natCast, and_true] at *; omega)) ?_ | refine LoopN.go ?_ | exact trivial | refine AltVC.mk ?_ ?_ | refine HeldVC.mk rfl ?_ | (refine CallVC.ex [1000] rfl hsz ?_; intro r hr; refine ⟨rfl, ?_⟩) | refine OpVC.more tt_ok ?_ | refine RestVC.ext tt_ok ?_)); all_goals (conv => whnf)
    all_goals first
      | exact RetVC.res rfl rfl
      | (exfalso; rcases hr.2 with h | h; omega; exact hb h)
end Go.Proofs.YtjpabjmcooiflaaDoor.X
