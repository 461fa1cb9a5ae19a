/- Live lines: the reference's. No condition beyond each statement's. -/
import Derived.Test.YtblihaicbhdbdaaLiveF
import Derived.Test.YtblihaicbhdbdaaLayers
import Derived.Test.YtblihaicbhdbdaaEnds
namespace Go.Proofs.Ytblihaicbhdbdaa.X
open Go.Proofs
set_option maxRecDepth 100000
set_option linter.unusedVariables false
set_option linter.unusedSimpArgs false

def nestL (w : Tx) (n : Nat) : List (List (List C)) := nestE ((List.range n).map (layL w))
theorem nestL_len (w : Tx) (n : Nat) : (nestL w n).length = n := by simp [nestL, nestE]
theorem nestL_succ (w : Tx) (n : Nat) : nestL w (n + 1) = nestL w n ++ [strE (layL w n)] := by simp [nestL, nestE, List.range_succ]
theorem nestL_get {w : Tx} {n k : Nat} (h : k < n) : (nestL w n)[k]? = some (strE (layL w k)) := by simp [nestL, nestE, h]
theorem l1HasS_spec (l : List Tx) (s : Tx) (hl : l.length ≤ 4398046511104) : Spec Try.prog 85 [.c (.sl 1000), .c (.str s)] [(1000, .sl 9 1 (strE l))]
    (isRes [vb (decide (s ∈ l))] [(1000, .sl 9 1 (strE l))]) := by
  have hsl := strE_len l
  refine Spec.of_wpx tt_ok Try.func85 (by kernel_rfl) rfl ?_
  (repeat' ((conv => whnf); first | refine CondVC.t ?_ | refine CondVC.f ?_ | refine CondVC.dec (fun h => ?_) (fun h => ?_) | refine CondVC.ndec (fun h => ?_) (fun h => ?_) | refine CondVC.mk (fun h => ?_) (fun h => ?_) | refine ArVC.i64 (by first | omega | (simp only; omega)) ?_ | refine SideVC.mk (by first | omega | decide | (simp only; omega) | (simp [slS]; done) | (simp [slS]; omega) | (simp only [byteE_len, mvE_len, strE_len, intE_len, esC_len, List.length_cons, List.length_nil, List.length_append, List.length_replicate, List.length_set, Int.toNat_natCast, and_true] at *; omega)) ?_ | refine LoopN.go ?_ | exact trivial | refine AltVC.mk ?_ ?_ | refine HeldVC.mk rfl ?_ | refine OpVC.more tt_ok ?_ | refine RestVC.ext tt_ok ?_)); all_goals (conv => whnf)
  refine LoopVC.mk (G := Nat) (fun i => ⟨[(9, .v (i64 i)), (8, .v (i64 l.length)), (7, .v (.c (.sl 1000))), (1, .v (.c (.str s)))], [(1000, .sl 9 1 (strE l))]⟩)
    (fun i => i ≤ l.length ∧ ∀ j (hj : j < l.length), j < i → l[j] ≠ s) (fun i => l.length - i) 0 ⟨Nat.zero_le _, fun j hj h => absurd h (Nat.not_lt_zero _)⟩ (Sub.mk [] _ ⟨rfl, by rw [hsl]; rfl, rfl, rfl, trivial⟩ rfl rfl) ?_
  intro i ⟨hi, hin⟩
  by_cases hil : i < l.length
  · have gi : (strE l)[(i : Int).toNat]? = some [.str l[i]] := by rw [Int.toNat_natCast]; exact strE_get hil
    by_cases he : l[i] = s
    · have hm : s ∈ l := by rw [← he]; exact List.getElem_mem hil
      (repeat' ((conv => whnf); first | refine CondVC.t ?_ | refine CondVC.f ?_ | refine CondVC.dec (fun h => ?_) (fun h => ?_) | refine CondVC.ndec (fun h => ?_) (fun h => ?_) | refine CondVC.mk (fun h => ?_) (fun h => ?_) | refine ArVC.i64 (by first | omega | (simp only; omega)) ?_ | refine SideVC.mk (by first | omega | decide | (simp only; omega) | (simp [slS]; done) | (simp [slS]; omega) | (simp only [byteE_len, mvE_len, strE_len, intE_len, esC_len, List.length_cons, List.length_nil, List.length_append, List.length_replicate, List.length_set, Int.toNat_natCast, and_true] at *; omega)) ?_ | refine LoopN.go ?_ | exact trivial | refine AltVC.mk ?_ ?_ | refine HeldVC.mk rfl ?_ | refine LoadVC.mk _ gi ?_ | refine SideVC.mk (by rw [hsl]; omega) ?_ | refine OpVC.more tt_ok ?_ | refine RestVC.ext tt_ok ?_)); all_goals (conv => whnf)
      all_goals first
        | (exfalso; omega)
        | exact RetVC.res (by rw [decide_eq_true hm]; rfl) rfl
        | (exfalso; simp_all; done)
    · (repeat' ((conv => whnf); first | refine CondVC.t ?_ | refine CondVC.f ?_ | refine CondVC.dec (fun h => ?_) (fun h => ?_) | refine CondVC.ndec (fun h => ?_) (fun h => ?_) | refine CondVC.mk (fun h => ?_) (fun h => ?_) | refine ArVC.i64 (by first | omega | (simp only; omega)) ?_ | refine SideVC.mk (by first | omega | decide | (simp only; omega) | (simp [slS]; done) | (simp [slS]; omega) | (simp only [byteE_len, mvE_len, strE_len, intE_len, esC_len, List.length_cons, List.length_nil, List.length_append, List.length_replicate, List.length_set, Int.toNat_natCast, and_true] at *; omega)) ?_ | refine LoopN.go ?_ | exact trivial | refine AltVC.mk ?_ ?_ | refine HeldVC.mk rfl ?_ | refine LoadVC.mk _ gi ?_ | refine SideVC.mk (by rw [hsl]; omega) ?_ | refine OpVC.more tt_ok ?_ | refine RestVC.ext tt_ok ?_)); all_goals (conv => whnf)
      all_goals first
        | (exfalso; omega)
        | exact ⟨i + 1, ⟨by omega, fun j hj h => by
            by_cases e : j = i
            · subst e; exact he
            · exact hin j hj (by omega)⟩, by omega, Sub.mk [] _ ⟨rfl, rfl, rfl, rfl, trivial⟩ rfl rfl⟩
        | (exfalso; simp_all; done)
  · have hm : s ∉ l := fun h => by
      obtain ⟨j, hj, e⟩ := List.getElem_of_mem h
      exact hin j hj (by omega) e
    (repeat' ((conv => whnf); first | refine CondVC.t ?_ | refine CondVC.f ?_ | refine CondVC.dec (fun h => ?_) (fun h => ?_) | refine CondVC.ndec (fun h => ?_) (fun h => ?_) | refine CondVC.mk (fun h => ?_) (fun h => ?_) | refine ArVC.i64 (by first | omega | (simp only; omega)) ?_ | refine SideVC.mk (by first | omega | decide | (simp only; omega) | (simp [slS]; done) | (simp [slS]; omega) | (simp only [byteE_len, mvE_len, strE_len, intE_len, esC_len, List.length_cons, List.length_nil, List.length_append, List.length_replicate, List.length_set, Int.toNat_natCast, and_true] at *; omega)) ?_ | refine LoopN.go ?_ | exact trivial | refine AltVC.mk ?_ ?_ | refine HeldVC.mk rfl ?_ | refine OpVC.more tt_ok ?_ | refine RestVC.ext tt_ok ?_)); all_goals (conv => whnf)
    all_goals first
      | (exfalso; omega)
      | exact RetVC.res (by rw [decide_eq_false hm]; rfl) rfl
theorem swReach_spec (w : Tx) (hok : w.all okCh = true) (hw : w.length ≤ 8) (x0 : Wy) (hx0 : okEn x0) : Spec Try.prog 62 [.c (.ptr 1000 0), .c (.str w)] (enM x0)
    (exRes (fun γ : Nat × Wy => (∀ j, j < γ.1 → layL w j ≠ []) ∧ layL w γ.1 = [] ∧ okEn γ.2) (fun _ => [.c (.sl 1021)])
      (fun γ => [(1021, .ext (.nest 46 9 1 (nestL w γ.1) [])), (1000, .box 48 [.sl 1011, .sl 1012]), (1011, .sl 9 1 (strE γ.2.1)), (1012, .sl 3 1 (intE γ.2.2))])) := by
  have hel := nestL_len w
  have hns := nestL_succ w
  have hn0 : nestL w 0 = [] := rfl
  have hl0 : strE (layL w 0) = [[C.str w]] := rfl
  have hnone : ∀ k, potF w < k → layL w k = [] := fun k h => layL_none h
  have hpp := pot_small (w := w) (by omega)
  have hall : ∀ k, ∀ u ∈ layL w k, u.all okCh = true ∧ u.length ≤ 8 := fun k u hu => by
    obtain ⟨h1, h2, _⟩ := reach_ok hok (layL_reach hu)
    exact ⟨h1, by omega⟩
  have hfew := fun k => layL_few hok (by omega : w.length ≤ 14) k
  have haf : ∀ (k i : Nat) (hi : i < (layL w k).length) (j : Nat), _ := fun k i hi j => agL_few (j := j) hok (by omega : w.length ≤ 14) hi
  have hz : ∀ k, acL (layL w k) 0 = [] := fun k => rfl
  have he : ∀ k i, (layL w k).length ≤ i → acL (layL w k) i = layL w (k + 1) := fun k i h => acL_end h
  have hGz : ∀ k i ms, agL (layL w k) i ms 0 = acL (layL w k) i := fun k i ms => rfl
  have hGs : ∀ k i (ms : List Tx) j (h : j < ms.length), agL (layL w k) i ms (j + 1) = addX (agL (layL w k) i ms j) ms[j] := fun k i ms j h => agL_succ _ i h
  have hGe : ∀ k i j (h : i < (layL w k).length), (succF (layL w k)[i]).length ≤ j → agL (layL w k) i (succF (layL w k)[i]) j = acL (layL w k) (i + 1) := fun k i j h hj => agL_end h hj
  generalize nestL w = nf at *
  generalize layL w = ly at *
  generalize potF w = D at *
  unfold enM
  refine Spec.of_wpx tt_ok Try.func62 (by kernel_rfl) rfl ?_
  (repeat' ((conv => whnf); first | refine CondVC.t ?_ | refine CondVC.f ?_ | refine CondVC.dec (fun h => ?_) (fun h => ?_) | refine CondVC.ndec (fun h => ?_) (fun h => ?_) | refine CondVC.mk (fun h => ?_) (fun h => ?_) | refine ArVC.i64 (by first | omega | (simp only; omega)) ?_ | refine SideVC.mk (by first | omega | decide | (simp only; omega) | (simp [slS]; done) | (simp [slS]; omega) | (simp only [byteE_len, mvE_len, strE_len, intE_len, esC_len, List.length_cons, List.length_nil, List.length_append, List.length_replicate, List.length_set, Int.toNat_natCast, and_true] at *; omega)) ?_ | refine LoopN.go ?_ | exact trivial | refine AltVC.mk ?_ ?_ | refine HeldVC.mk rfl ?_ | refine OpVC.more tt_ok ?_ | refine RestVC.ext tt_ok ?_)); all_goals (conv => whnf)
  refine LoopVC.mk (G := Nat × Wy) (fun γ => ⟨[(6, .v (.c (.sl 1021))), (5, .v (.c (.sl 1041))), (0, .v (.c (.ptr 1000 0)))], [(1021, .ext (.nest 46 9 1 (nf γ.1) [])), (1041, .sl 9 1 (strE (ly γ.1))), (1000, .box 48 [.sl 3001, .sl 3002]), (3001, .sl 9 1 (strE γ.2.1)), (3002, .sl 3 1 (intE γ.2.2))]⟩)
    (fun γ => γ.1 ≤ D + 1 ∧ (∀ j, j < γ.1 → ly j ≠ []) ∧ okEn γ.2) (fun γ => D + 1 - γ.1) (0, x0) ⟨Nat.zero_le _, fun j h => absurd h (Nat.not_lt_zero _), hx0⟩
    (Sub.trans (t := ⟨[(6, .v (.c (.sl 1021))), (5, .v (.c (.sl 14))), (0, .v (.c (.ptr 1000 0)))], [(1021, .sl 46 1 []), (14, .sl 9 1 [[C.str w]]), (1000, .box 48 [.sl 1001, .sl 1002]), (1001, .sl 9 1 (strE x0.1)), (1002, .sl 3 1 (intE x0.2))]⟩)
      (Sub.nil 1021 46 1 ⟨rfl, rfl, rfl, trivial⟩ rfl rfl)
      (Sub.trans (Sub.toNest 1021 9 1 rfl) (Sub.mk [(3001, 1001), (3002, 1002), (1041, 14)] [] ⟨rfl, rfl, rfl, trivial⟩ (by simp only [hn0, hl0]; rfl) rfl))) ?_
  rintro ⟨k, x⟩ ⟨hk, hne, hx⟩
  simp only at hk hne hx
  have hfk := hfew k
  have hsl := strE_len (ly k)
  by_cases hlk : ly k = []
  · have h0 : (strE (ly k)).length = 0 := by rw [hlk]; rfl
    (repeat' ((conv => whnf); first | refine CondVC.t ?_ | refine CondVC.f ?_ | refine CondVC.dec (fun h => ?_) (fun h => ?_) | refine CondVC.ndec (fun h => ?_) (fun h => ?_) | refine CondVC.mk (fun h => ?_) (fun h => ?_) | refine ArVC.i64 (by first | omega | (simp only; omega)) ?_ | refine SideVC.mk (by first | omega | decide | (simp only; omega) | (simp [slS]; done) | (simp [slS]; omega) | (simp only [byteE_len, mvE_len, strE_len, intE_len, esC_len, List.length_cons, List.length_nil, List.length_append, List.length_replicate, List.length_set, Int.toNat_natCast, and_true] at *; omega)) ?_ | refine LoopN.go ?_ | exact trivial | refine AltVC.mk ?_ ?_ | refine HeldVC.mk rfl ?_ | refine OpVC.more tt_ok ?_ | refine RestVC.ext tt_ok ?_)); all_goals (conv => whnf)
    all_goals first
      | (exfalso; simp only at *; omega)
      | exact RetVC.ren [(1011, 3001), (1012, 3002)] [.c (.sl 1021)] [(1021, .ext (.nest 46 9 1 (nf k) [])), (1000, .box 48 [.sl 1011, .sl 1012]), (1011, .sl 9 1 (strE x.1)), (1012, .sl 3 1 (intE x.2))] rfl rfl rfl ⟨(k, x), ⟨hne, hlk, hx⟩, rfl, rfl⟩
  · have hp : 0 < (strE (ly k)).length := by
      rw [hsl]
      exact List.length_pos_iff.2 hlk
    have hkD : k ≤ D := by
      apply Classical.byContradiction
      intro h
      exact hlk (hnone k (by omega))
    have hel := hel k
    have g0 : (nf k ++ [strE (ly k)])[(nf k).length + 0]? = some (strE (ly k)) := by simp
    (repeat' ((conv => whnf); first | refine CondVC.t ?_ | refine CondVC.f ?_ | refine CondVC.dec (fun h => ?_) (fun h => ?_) | refine CondVC.ndec (fun h => ?_) (fun h => ?_) | refine CondVC.mk (fun h => ?_) (fun h => ?_) | refine ArVC.i64 (by first | omega | (simp only; omega)) ?_ | refine SideVC.mk (by first | omega | decide | (simp only; omega) | (simp [slS]; done) | (simp [slS]; omega) | (simp only [byteE_len, mvE_len, strE_len, intE_len, esC_len, List.length_cons, List.length_nil, List.length_append, List.length_replicate, List.length_set, Int.toNat_natCast, and_true] at *; omega)) ?_ | refine LoopN.go ?_ | exact trivial | refine AltVC.mk ?_ ?_ | refine HeldVC.mk rfl ?_ | refine RestVC2.nestBuild tt_ok rfl rfl rfl rfl rfl rfl rfl rfl ?_ | refine RestVC2.nestAppend tt_ok rfl rfl rfl rfl rfl rfl rfl rfl rfl rfl rfl (Nat.succ_pos _) (by simp only [hel, List.length_cons, List.length_nil]; omega) ?_ | refine RestVC2.insLen tt_ok rfl rfl rfl rfl g0 ?_ | refine OpVC.more tt_ok ?_ | refine RestVC.ext tt_ok ?_)); all_goals (conv => whnf)
    all_goals try (exfalso; simp only at *; omega)
    have hall := hall k
    have haf := haf k
    have hz := hz k
    have he := he k
    have hGz := hGz k
    have hGs := hGs k
    have hGe := hGe k
    have hns := hns k
    have hidx : (nf k).length + 0 = k := by omega
    have g1 : (nf (k + 1))[k]? = some (strE (ly k)) := by rw [hns]; rw [hidx] at g0; exact g0
    have hel1 : (nf (k + 1)).length = k + 1 := by rw [hns, List.length_append, hel]; rfl
    generalize hnl : ly (k + 1) = nl at *
    generalize hl : ly k = l at *
    generalize hne1 : nf (k + 1) = ne at *
    generalize agL l = ag at *
    generalize acL l = af at *
    refine LoopVC.mk (G := Nat × Wy) (fun γ => ⟨[(24, .v (i64 γ.1)), (23, .v (i64 l.length)), (22, .v (.c (.ins 1021 k))), (7, .v (.c (.sl 1031))), (6, .v (.c (.sl 1021))), (0, .v (.c (.ptr 1000 0)))],
        [(1031, .sl 9 1 (strE (af γ.1))), (1021, .ext (.nest 46 9 1 ne [])), (1000, .box 48 [.sl 3001, .sl 3002]), (3001, .sl 9 1 (strE γ.2.1)), (3002, .sl 3 1 (intE γ.2.2))]⟩)
      (fun γ => γ.1 ≤ l.length ∧ okEn γ.2) (fun γ => l.length - γ.1) (0, x) ⟨Nat.zero_le _, hx⟩
      (Sub.trans (t := ⟨[(24, .v (i64 0)), (23, .v (i64 (strE l).length)), (22, .v (.c (.ins 21 ((nf k).length + 0)))), (7, .v (.c (.sl 1031))), (6, .v (.c (.sl 21))), (0, .v (.c (.ptr 1000 0)))],
        [(1031, .sl 9 1 []), (21, .ext (.nest 46 9 1 (nf k ++ [strE l]) [])), (1000, .box 48 [.sl 3001, .sl 3002]), (3001, .sl 9 1 (strE x.1)), (3002, .sl 3 1 (intE x.2))]⟩)
        (Sub.nil 1031 9 1 ⟨rfl, rfl, rfl, rfl, rfl, rfl, trivial⟩ rfl rfl)
        (Sub.mk [(1021, 21)] _ ⟨rfl, by rw [hsl]; rfl, congrArg (fun z => some (E.v (.c (.ins 21 z)))) hidx, rfl, rfl, rfl, trivial⟩ (by simp only [hz, hns]; rfl) rfl)) ?_
    rintro ⟨i, x⟩ ⟨hi, hx⟩
    simp only at hi hx
    by_cases hil : i < l.length
    · have gi : (strE l)[(i : Int).toNat]? = some [.str l[i]] := by rw [Int.toNat_natCast]; exact strE_get hil
      obtain ⟨hvok, hvl⟩ := hall _ (List.getElem_mem hil)
      have hmv := liMoves_spec l[i] true true hvok (by omega)
      rw [liMoves_eq hvok, show kindsF true true = both from rfl] at hmv
      have hmv := Spec.ren [(1001, 2001)] [(2001, 1001)] hmv rfl rfl rfl
      have hin : ∀ m ∈ movesF l[i] both, _ := fun m hm => movesF_in hm
      have hmk : ∀ m ∈ movesF l[i] both, _ := fun m hm => liMake_spec l[i] m (hin m hm).1 (hin m hm).2.1 (hin m hm).2.2 (by omega)
      have hW : ∀ m ∈ movesF l[i] both, ∀ x, okEn x → _ := fun m hm x hx => by
        have h1 := ends_all (madeF l[i] m) (by rw [madeF_len]; omega) (okCh_made hvok (by have := (hin m hm).1; omega)) x hx
        unfold enM enR at h1
        exact Spec.renE [(1001, 3001), (1002, 3002), (1011, 3011), (1012, 3012)] [(3001, 1001), (3002, 1002), (3011, 1011), (3012, 1012)] h1 (fun _ => rfl) (fun _ => rfl) rfl
      have hsuccl : (succF l[i]).length = (movesF l[i] both).length := by simp [succF]
      have hsuccg : ∀ j (h : j < (succF l[i]).length) (h' : j < (movesF l[i] both).length), (succF l[i])[j] = madeF l[i] (movesF l[i] both)[j] := fun j h h' => by simp [succF]
      have hGz := hGz i (succF l[i])
      have hGs := hGs i (succF l[i])
      have hGe := fun j => hGe i j hil
      have hfewi := haf i hil
      have hmll := movesF_len l[i] both
      generalize succF l[i] = sv at *
      generalize ag i sv = agi at *
      generalize movesF l[i] both = ms at *
      have hml := mvE_len ms
      have gk : (ne)[k]? = some (strE l) := g1
      (repeat' ((conv => whnf); first | refine CondVC.t ?_ | refine CondVC.f ?_ | refine CondVC.dec (fun h => ?_) (fun h => ?_) | refine CondVC.ndec (fun h => ?_) (fun h => ?_) | refine CondVC.mk (fun h => ?_) (fun h => ?_) | refine ArVC.i64 (by first | omega | (simp only; omega)) ?_ | refine SideVC.mk (by first | omega | decide | (simp only; omega) | (simp [slS]; done) | (simp [slS]; omega) | (simp only [byteE_len, mvE_len, strE_len, intE_len, esC_len, List.length_cons, List.length_nil, List.length_append, List.length_replicate, List.length_set, Int.toNat_natCast, and_true] at *; omega)) ?_ | refine LoopN.go ?_ | exact trivial | refine AltVC.mk ?_ ?_ | refine HeldVC.mk rfl ?_ | refine RestVC2.insAddr tt_ok rfl rfl rfl rfl rfl gk (by rw [hsl]; omega) ?_ | refine RestVC2.insLoad tt_ok rfl rfl rfl gk gi rfl ?_ | refine CallVC.res [] rfl hmv rfl ?_ | refine OpVC.more tt_ok ?_ | refine RestVC.ext tt_ok ?_)); all_goals (conv => whnf)
      all_goals try (exfalso; simp only at *; omega)
      refine LoopVC.mk (G := Nat × Wy) (fun γ => ⟨[(31, .v (i64 γ.1)), (30, .v (i64 ms.length)), (29, .v (.c (.sl 2001))), (9, .v (.c (.str l[i]))), (24, .v (i64 i)), (23, .v (i64 l.length)), (22, .v (.c (.ins 1021 k))), (7, .v (.c (.sl 1031))), (6, .v (.c (.sl 1021))), (0, .v (.c (.ptr 1000 0)))],
          [(2001, .sl 66 2 (mvE ms)), (1031, .sl 9 1 (strE (agi γ.1))), (1021, .ext (.nest 46 9 1 ne [])), (1000, .box 48 [.sl 3001, .sl 3002]), (3001, .sl 9 1 (strE γ.2.1)), (3002, .sl 3 1 (intE γ.2.2))]⟩)
        (fun γ => γ.1 ≤ ms.length ∧ okEn γ.2) (fun γ => ms.length - γ.1) (0, x) ⟨Nat.zero_le _, hx⟩ (Sub.mk [] _ ⟨rfl, by rw [hml]; rfl, rfl, rfl, rfl, rfl, rfl, rfl, rfl, rfl, trivial⟩ (by rw [hGz]; rfl) rfl) ?_
      rintro ⟨j, x⟩ ⟨hj, hx⟩
      simp only at hj hx
      by_cases hjl : j < ms.length
      · have hmem := List.getElem_mem hjl
        have gj : (mvE ms)[(j : Int).toNat]? = some (mvC ms[j]) := by rw [Int.toNat_natCast]; exact mvE_get hjl
        have h6 := hmk _ hmem
        have h8 := hW _ hmem x hx
        have hsj := hGs j (by omega)
        rw [hsuccg j (by omega) hjl] at hsj
        have hfj := hfewi j
        have hus := strE_len (agi j)
        have h7 := Spec.ren [(1000, 1031)] [(1031, 1000)] (l1HasS_spec (agi j) (madeF l[i] ms[j]) hfj) rfl rfl rfl
        unfold addX liveT at hsj
        generalize madeF l[i] ms[j] = u at *
        generalize wp (lastF u) u = q at *
        obtain ⟨a2, ha2⟩ : ∃ a2, a2 = agi (j + 1) := ⟨_, rfl⟩
        rw [← ha2] at hsj
        generalize hag0 : agi j = a0 at *
        by_cases hq : 0 < q
        · rw [decide_eq_true hq] at hsj
          by_cases hm : u ∈ a0
          · rw [decide_eq_true hm] at hsj h7
            have hsj : a2 = a0 := hsj
            (repeat' ((conv => whnf); first | refine CondVC.t ?_ | refine CondVC.f ?_ | refine CondVC.dec (fun h => ?_) (fun h => ?_) | refine CondVC.ndec (fun h => ?_) (fun h => ?_) | refine CondVC.mk (fun h => ?_) (fun h => ?_) | refine ArVC.i64 (by first | omega | (simp only; omega)) ?_ | refine SideVC.mk (by first | omega | decide | (simp only; omega) | (simp [slS]; done) | (simp [slS]; omega) | (simp only [byteE_len, mvE_len, strE_len, intE_len, esC_len, List.length_cons, List.length_nil, List.length_append, List.length_replicate, List.length_set, Int.toNat_natCast, and_true] at *; omega)) ?_ | refine LoopN.go ?_ | exact trivial | refine AltVC.mk ?_ ?_ | refine HeldVC.mk rfl ?_ | refine LoadVC.mk _ gj ?_ | refine SideVC.mk (by rw [hml]; omega) ?_ | refine CallVC.pure h6 rfl ?_ | (refine CallVC.ex [1000, 3001, 3002] rfl h8 ?_; intro x' hx'; refine ⟨rfl, ?_⟩) | refine CallVC.res [1031] rfl h7 rfl ?_ | refine OpVC.more tt_ok ?_ | refine RestVC.ext tt_ok ?_)); all_goals (conv => whnf)
            all_goals first
              | (exfalso; simp only at *; omega)
              | exact ⟨(j + 1, x'), ⟨by simp only; omega, hx'.1⟩, by simp only; omega, Sub.mk [(3001, 3011), (3002, 3012)] _ ⟨rfl, rfl, rfl, rfl, rfl, rfl, rfl, rfl, rfl, rfl, trivial⟩ (by simp only [← ha2, hsj]; rfl) rfl⟩
          · rw [decide_eq_false hm] at hsj h7
            have hsj : a2 = a0 ++ [u] := hsj
            have hse : strE (a0 ++ [u]) = strE a0 ++ [[.str u]] := by simp [strE]
            (repeat' ((conv => whnf); first | refine CondVC.t ?_ | refine CondVC.f ?_ | refine CondVC.dec (fun h => ?_) (fun h => ?_) | refine CondVC.ndec (fun h => ?_) (fun h => ?_) | refine CondVC.mk (fun h => ?_) (fun h => ?_) | refine ArVC.i64 (by first | omega | (simp only; omega)) ?_ | refine SideVC.mk (by first | omega | decide | (simp only; omega) | (simp [slS]; done) | (simp [slS]; omega) | (simp only [byteE_len, mvE_len, strE_len, intE_len, esC_len, List.length_cons, List.length_nil, List.length_append, List.length_replicate, List.length_set, Int.toNat_natCast, and_true] at *; omega)) ?_ | refine LoopN.go ?_ | exact trivial | refine AltVC.mk ?_ ?_ | refine HeldVC.mk rfl ?_ | refine LoadVC.mk _ gj ?_ | refine SideVC.mk (by rw [hml]; omega) ?_ | refine SideVC.mk (by simp only [hus, List.length_cons, List.length_nil]; omega) ?_ | refine CallVC.pure h6 rfl ?_ | (refine CallVC.ex [1000, 3001, 3002] rfl h8 ?_; intro x' hx'; refine ⟨rfl, ?_⟩) | refine CallVC.res [1031] rfl h7 rfl ?_ | refine OpVC.more tt_ok ?_ | refine RestVC.ext tt_ok ?_)); all_goals (conv => whnf)
            all_goals first
              | (exfalso; simp only at *; omega)
              | exact ⟨(j + 1, x'), ⟨by simp only; omega, hx'.1⟩, by simp only; omega, Sub.mk [(3001, 3011), (3002, 3012), (1031, 51)] _ ⟨rfl, rfl, rfl, rfl, rfl, rfl, rfl, rfl, rfl, rfl, trivial⟩ (by simp only [← ha2, hsj, hse]; rfl) rfl⟩
        · rw [decide_eq_false hq] at hsj
          have hsj : a2 = a0 := hsj
          (repeat' ((conv => whnf); first | refine CondVC.t ?_ | refine CondVC.f ?_ | refine CondVC.dec (fun h => ?_) (fun h => ?_) | refine CondVC.ndec (fun h => ?_) (fun h => ?_) | refine CondVC.mk (fun h => ?_) (fun h => ?_) | refine ArVC.i64 (by first | omega | (simp only; omega)) ?_ | refine SideVC.mk (by first | omega | decide | (simp only; omega) | (simp [slS]; done) | (simp [slS]; omega) | (simp only [byteE_len, mvE_len, strE_len, intE_len, esC_len, List.length_cons, List.length_nil, List.length_append, List.length_replicate, List.length_set, Int.toNat_natCast, and_true] at *; omega)) ?_ | refine LoopN.go ?_ | exact trivial | refine AltVC.mk ?_ ?_ | refine HeldVC.mk rfl ?_ | refine LoadVC.mk _ gj ?_ | refine SideVC.mk (by rw [hml]; omega) ?_ | refine CallVC.pure h6 rfl ?_ | (refine CallVC.ex [1000, 3001, 3002] rfl h8 ?_; intro x' hx'; refine ⟨rfl, ?_⟩) | refine OpVC.more tt_ok ?_ | refine RestVC.ext tt_ok ?_)); all_goals (conv => whnf)
          all_goals first
            | (exfalso; simp only at *; omega)
            | exact ⟨(j + 1, x'), ⟨by simp only; omega, hx'.1⟩, by simp only; omega, Sub.mk [(3001, 3011), (3002, 3012)] _ ⟨rfl, rfl, rfl, rfl, rfl, rfl, rfl, rfl, rfl, rfl, trivial⟩ (by simp only [← ha2, hsj]; rfl) rfl⟩
      · have hej := hGe j (by omega)
        (repeat' ((conv => whnf); first | refine CondVC.t ?_ | refine CondVC.f ?_ | refine CondVC.dec (fun h => ?_) (fun h => ?_) | refine CondVC.ndec (fun h => ?_) (fun h => ?_) | refine CondVC.mk (fun h => ?_) (fun h => ?_) | refine ArVC.i64 (by first | omega | (simp only; omega)) ?_ | refine SideVC.mk (by first | omega | decide | (simp only; omega) | (simp [slS]; done) | (simp [slS]; omega) | (simp only [byteE_len, mvE_len, strE_len, intE_len, esC_len, List.length_cons, List.length_nil, List.length_append, List.length_replicate, List.length_set, Int.toNat_natCast, and_true] at *; omega)) ?_ | refine LoopN.go ?_ | exact trivial | refine AltVC.mk ?_ ?_ | refine HeldVC.mk rfl ?_ | refine OpVC.more tt_ok ?_ | refine RestVC.ext tt_ok ?_)); all_goals (conv => whnf)
        all_goals first
          | (exfalso; simp only at *; omega)
          | exact ⟨(i + 1, x), ⟨by simp only; omega, hx⟩, by simp only; omega, Sub.mk [] _ ⟨rfl, rfl, rfl, rfl, rfl, rfl, trivial⟩ (by simp only [← hej]; rfl) rfl⟩
    · have hei := he i (by omega)
      (repeat' ((conv => whnf); first | refine CondVC.t ?_ | refine CondVC.f ?_ | refine CondVC.dec (fun h => ?_) (fun h => ?_) | refine CondVC.ndec (fun h => ?_) (fun h => ?_) | refine CondVC.mk (fun h => ?_) (fun h => ?_) | refine ArVC.i64 (by first | omega | (simp only; omega)) ?_ | refine SideVC.mk (by first | omega | decide | (simp only; omega) | (simp [slS]; done) | (simp [slS]; omega) | (simp only [byteE_len, mvE_len, strE_len, intE_len, esC_len, List.length_cons, List.length_nil, List.length_append, List.length_replicate, List.length_set, Int.toNat_natCast, and_true] at *; omega)) ?_ | refine LoopN.go ?_ | exact trivial | refine AltVC.mk ?_ ?_ | refine HeldVC.mk rfl ?_ | refine OpVC.more tt_ok ?_ | refine RestVC.ext tt_ok ?_)); all_goals (conv => whnf)
      all_goals first
        | (exfalso; simp only at *; omega)
        | exact ⟨(k + 1, x), ⟨by simp only; omega, fun j hj => by
            by_cases e : j = k
            · rw [e, hl]; exact hlk
            · exact hne j (by simp only at hj; omega), hx⟩, by simp only; omega, Sub.mk [(1041, 1031)] _ ⟨rfl, rfl, rfl, trivial⟩ (by simp only [hne1, hnl, ← hei]; rfl) rfl⟩
end Go.Proofs.Ytblihaicbhdbdaa.X
