/- The law of forced moves. No condition beyond each statement's. -/
import Derived.Test.YthkcmdiefafmlaaForce
namespace Go.Proofs.Ythkcmdiefafmlaa.X
open Go.Proofs
set_option maxRecDepth 100000
set_option linter.unusedVariables false
set_option linter.unusedSimpArgs false

def szM (n : Nat) (left : Int) : Int := if left - n < 0 then -1 else left - n
theorem szMoveS_spec (o : Obj) (l : List Mv) (left : Int) (hl : l.length ≤ 9223372036854775807) (h0 : 0 ≤ left ∧ left ≤ 1048576) : Spec Try.prog 21 [.c (.sl 1000), i64 left] [(1000, .ro o 71 2 (mvE l))] (isRes [i64 (szM l.length left)] [(1000, .ro o 71 2 (mvE l))]) := by
  have hn := mvE_len l
  refine Spec.of_wpx tt_ok Try.func21 (by kernel_rfl) rfl ?_
  (repeat' ((conv => whnf); first | refine CondVC.t ?_ | refine CondVC.f ?_ | refine CondVC.dec (fun h => ?_) (fun h => ?_) | refine CondVC.ndec (fun h => ?_) (fun h => ?_) | refine CondVC.mk (fun h => ?_) (fun h => ?_) | refine ArVC.i64 (by first | omega | (simp only; omega)) ?_ | refine SideVC.mk (by first | omega | decide | (simp only; omega) | (simp [slS]; done) | (simp [slS]; omega) | (simp only [byteE_len, mvE_len, strE_len, intE_len, esC_len, List.length_cons, List.length_nil, List.length_append, List.length_replicate, List.length_set, Int.toNat_natCast, and_true] at *; omega)) ?_ | refine LoopN.go ?_ | exact trivial | refine AltVC.mk ?_ ?_ | refine HeldVC.mk rfl ?_ | refine OpVC.more tt_ok ?_ | refine RestVC.ext tt_ok ?_)); all_goals (conv => whnf)
  all_goals simp only [hn] at *
  all_goals exact RetVC.res (by simp only [i64, szM]; first | rw [if_pos (by omega)] | rw [if_neg (by omega)]) rfl
theorem toMove_spec (m : Mv) : Spec Try.prog 53 [.agg (mvC m)] [] (isRes [.agg (mvC m)] []) := by
  refine Spec.of_wpx tt_ok Try.func53 (by kernel_rfl) rfl ?_
  (repeat' ((conv => whnf); first | refine CondVC.t ?_ | refine CondVC.f ?_ | refine CondVC.dec (fun h => ?_) (fun h => ?_) | refine CondVC.ndec (fun h => ?_) (fun h => ?_) | refine CondVC.mk (fun h => ?_) (fun h => ?_) | refine ArVC.i64 (by first | omega | (simp only; omega)) ?_ | refine SideVC.mk (by first | omega | decide | (simp only; omega) | (simp [slS]; done) | (simp [slS]; omega) | (simp only [byteE_len, mvE_len, strE_len, intE_len, esC_len, List.length_cons, List.length_nil, List.length_append, List.length_replicate, List.length_set, Int.toNat_natCast, and_true] at *; omega)) ?_ | refine LoopN.go ?_ | exact trivial | refine AltVC.mk ?_ ?_ | refine HeldVC.mk rfl ?_ | refine OpVC.more tt_ok ?_ | refine RestVC.ext tt_ok ?_)); all_goals (conv => whnf)
  all_goals exact RetVC.res rfl rfl
def partM (l : List Mv) (k : Nat) : List (List C) := mvE (l.take k) ++ List.replicate (l.length - k) [.int .i64 0, .int .i64 0]
theorem partM_len {l : List Mv} {k : Nat} (h : k ≤ l.length) : (mvE (l.take k)).length = k := by simp [mvE]; omega
theorem partM_get {l : List Mv} {k : Nat} (h : k < l.length) : (partM l k)[k]? = some [.int .i64 0, .int .i64 0] := by
  unfold partM
  have h1 := partM_len (l := l) (k := k) (by omega)
  rw [List.getElem?_append_right (by omega), h1, Nat.sub_self, List.getElem?_replicate, if_pos (by omega)]
theorem partM_set {l : List Mv} {k : Nat} (h : k < l.length) : (partM l k).set k (mvC l[k]) = partM l (k + 1) := by
  unfold partM
  have h1 := partM_len (l := l) (k := k) (by omega)
  have h2 : mvE (l.take (k + 1)) = mvE (l.take k) ++ [mvC l[k]] := by unfold mvE; rw [List.take_succ_eq_append_getElem h, List.map_append]; rfl
  rw [List.set_append_right _ _ (by omega), h1, Nat.sub_self, show l.length - k = (l.length - (k + 1)) + 1 by omega, List.replicate_succ, List.set_cons_zero, h2, List.append_assoc]
  rfl
theorem partM_zero (l : List Mv) : partM l 0 = List.replicate l.length [.int .i64 0, .int .i64 0] := by simp [partM, mvE]
theorem partM_end (l : List Mv) : partM l l.length = mvE l := by simp [partM]
theorem toMoveS_spec (o : Obj) (l : List Mv) (hl : l.length ≤ 1048576) : Spec Try.prog 23 [.c (.sl 1000)] [(1000, .ro o 71 2 (mvE l))] (isRes [.c (.sl 1001)] [(1000, .ro o 71 2 (mvE l)), (1001, .sl 60 2 (mvE l))]) := by
  have hn := mvE_len l
  refine Spec.of_wpx tt_ok Try.func23 (by kernel_rfl) rfl ?_
  (repeat' ((conv => whnf); first | refine CondVC.t ?_ | refine CondVC.f ?_ | refine CondVC.dec (fun h => ?_) (fun h => ?_) | refine CondVC.ndec (fun h => ?_) (fun h => ?_) | refine CondVC.mk (fun h => ?_) (fun h => ?_) | refine ArVC.i64 (by first | omega | (simp only; omega)) ?_ | refine SideVC.mk (by first | omega | decide | (simp only; omega) | (simp [slS]; done) | (simp [slS]; omega) | (simp only [byteE_len, mvE_len, strE_len, intE_len, esC_len, List.length_cons, List.length_nil, List.length_append, List.length_replicate, List.length_set, Int.toNat_natCast, and_true] at *; omega)) ?_ | refine LoopN.go ?_ | exact trivial | refine AltVC.mk ?_ ?_ | refine HeldVC.mk rfl ?_ | refine OpVC.more tt_ok ?_ | refine OpVC.more tt_ok ?_ | refine RestVC.ext tt_ok ?_)); all_goals (conv => whnf)
  refine LoopVC.mk (G := Nat) (fun k => ⟨[(4, .v (i64 k)), (3, .v (.c (.sl 1001))), (0, .v (.c (.sl 1000)))], [(1000, .ro o 71 2 (mvE l)), (1001, .sl 60 2 (partM l k))]⟩)
    (fun k => k ≤ l.length) (fun k => l.length - k) 0 (by omega) (Sub.mk [(1001, 7)] [] ⟨rfl, rfl, rfl, trivial⟩ (by rw [partM_zero, ← hn]; rfl) rfl) ?_
  intro k hk
  have hpl : (partM l k).length = l.length := by simp [partM, partM_len hk]; omega
  (repeat' ((conv => whnf); first | refine CondVC.t ?_ | refine CondVC.f ?_ | refine CondVC.dec (fun h => ?_) (fun h => ?_) | refine CondVC.ndec (fun h => ?_) (fun h => ?_) | refine CondVC.mk (fun h => ?_) (fun h => ?_) | refine ArVC.i64 (by first | omega | (simp only; omega)) ?_ | refine SideVC.mk (by first | omega | decide | (simp only; omega) | (simp [slS]; done) | (simp [slS]; omega) | (simp only [byteE_len, mvE_len, strE_len, intE_len, esC_len, List.length_cons, List.length_nil, List.length_append, List.length_replicate, List.length_set, Int.toNat_natCast, and_true] at *; omega)) ?_ | refine LoopN.go ?_ | exact trivial | refine AltVC.mk ?_ ?_ | refine HeldVC.mk rfl ?_ | refine OpVC.more tt_ok ?_ | refine CallVC.pure (toMove_spec _) rfl ?_ | refine LoadVC.mk _ (mvE_get (k := k) (by simp only [hn] at *; omega)) ?_ | refine LoadVC.mk _ (partM_get (k := k) (by simp only [hn] at *; omega)) ?_ | refine OpVC.more tt_ok ?_ | refine RestVC.ext tt_ok ?_)); all_goals (conv => whnf)
  · have hk' : k < l.length := by simp only [hn] at h; omega
    exact ⟨k + 1, hk', by omega, Sub.mk [] [] ⟨rfl, rfl, rfl, trivial⟩ (by rw [← partM_set hk']; rfl) rfl⟩
  · have hk' : k = l.length := by simp only [hn] at h; omega
    exact RetVC.res rfl (by rw [hk', partM_end]; rfl)

theorem lawForcedIn_spec (x y z : Int) (o : Obj) (l : List Mv) (hl : l.length ≤ 9223372036854775807) : Spec Try.prog 7 [i64 x, i64 y, i64 z, .c (.sl 1000)] [(1000, .ro o 71 2 (mvE l))]
    (isRes [vb true] [(1000, .ro o 71 2 (mvE l))]) := by
  have hsz := szMoveS_spec o l 1048576 hl (by omega)
  refine Spec.of_wpx tt_ok Try.func7 (by kernel_rfl) rfl ?_
  by_cases hb : l.length ≤ 1048576
  · have hto := toMoveS_spec o l hb
    have h1 := specForcedIn_spec x y z l (by omega)
    have h2 := implForcedIn_spec x y z l (by omega)
    have heq := eqMoveS_self l (by omega)
    have hs : szM l.length 1048576 = 1048576 - l.length := by unfold szM; rw [if_neg (by omega)]
    rw [hs] at hsz
    generalize forcedF x y z l = q at *
    generalize isXF x y z l = b at *
    cases b
    all_goals
      (repeat' ((conv => whnf); first | refine CondVC.t ?_ | refine CondVC.f ?_ | refine CondVC.dec (fun h => ?_) (fun h => ?_) | refine CondVC.ndec (fun h => ?_) (fun h => ?_) | refine CondVC.mk (fun h => ?_) (fun h => ?_) | refine ArVC.i64 (by first | omega | (simp only; omega)) ?_ | refine SideVC.mk (by first | omega | decide | (simp only; omega) | (simp [slS]; done) | (simp [slS]; omega) | (simp only [byteE_len, mvE_len, strE_len, intE_len, esC_len, List.length_cons, List.length_nil, List.length_append, List.length_replicate, List.length_set, Int.toNat_natCast, and_true] at *; omega)) ?_ | refine LoopN.go ?_ | exact trivial | refine AltVC.mk ?_ ?_ | refine HeldVC.mk rfl ?_ | refine CallVC.res [1000] rfl hsz rfl ?_ | refine CallVC.res [1000] rfl (Spec.ren [(1001, 2001)] [(2001, 1001)] hto rfl rfl rfl) rfl ?_ | refine CallVC.res [1000] rfl (Spec.ren [(1001, 2002)] [(2002, 1001)] hto rfl rfl rfl) rfl ?_ | refine CallVC.res [1000] rfl (Spec.ren [(1001, 2003)] [(2003, 1001)] hto rfl rfl rfl) rfl ?_ | refine CallVC.res [2001] rfl (Spec.ren [(1000, 2001)] [(2001, 1000)] h1 rfl rfl rfl) rfl ?_ | refine CallVC.res [2002] rfl (Spec.ren [(1000, 2002)] [(2002, 1000)] h2 rfl rfl rfl) rfl ?_ | refine CallVC.res [2002, 2003] rfl (Spec.ren [(1000, 2002), (1001, 2003)] [(2002, 1000), (2003, 1001)] heq rfl rfl rfl) rfl ?_ | refine OpVC.more tt_ok ?_ | refine RestVC.ext tt_ok ?_)); all_goals (conv => whnf)
      all_goals first | exact RetVC.res rfl rfl | (exfalso; omega) | (exfalso; simp_all; done)
  · have hs : szM l.length 1048576 = -1 := by unfold szM; rw [if_pos (by omega)]
    rw [hs] at hsz
    (repeat' ((conv => whnf); first | refine CondVC.t ?_ | refine CondVC.f ?_ | refine CondVC.dec (fun h => ?_) (fun h => ?_) | refine CondVC.ndec (fun h => ?_) (fun h => ?_) | refine CondVC.mk (fun h => ?_) (fun h => ?_) | refine ArVC.i64 (by first | omega | (simp only; omega)) ?_ | refine SideVC.mk (by first | omega | decide | (simp only; omega) | (simp [slS]; done) | (simp [slS]; omega) | (simp only [byteE_len, mvE_len, strE_len, intE_len, esC_len, List.length_cons, List.length_nil, List.length_append, List.length_replicate, List.length_set, Int.toNat_natCast, and_true] at *; omega)) ?_ | refine LoopN.go ?_ | exact trivial | refine AltVC.mk ?_ ?_ | refine HeldVC.mk rfl ?_ | refine CallVC.res [1000] rfl hsz rfl ?_ | refine OpVC.more tt_ok ?_ | refine RestVC.ext tt_ok ?_)); all_goals (conv => whnf)
    all_goals first | exact RetVC.res rfl rfl | (exfalso; omega)
end Go.Proofs.Ythkcmdiefafmlaa.X
