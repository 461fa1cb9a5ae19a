/- Shortest stops: the reference's. No condition beyond the statement's. -/
import Derived.Test.YtnekgpjgekakkaaDoorStops
namespace Go.Proofs.YtnekgpjgekakkaaDoor.X
open Go.Proofs
set_option maxRecDepth 100000
set_option linter.unusedVariables false
set_option linter.unusedSimpArgs false

theorem specShortestStop_spec (w : Tx) (hw0 : w.length ≤ 1048576) : Spec Tryd.prog 24 [.c (.str w)] [] (isRes [i64 (shortF w), vb (lineOf w 10)] []) := by
  have h0 := reFew_spec w hw0
  unfold shortF
  refine Spec.of_wpx tt_ok Tryd.func24 (by kernel_rfl) rfl ?_
  cases ha : lineOf w 10 with
  | false =>
    rw [ha] at h0
    (repeat' ((conv => whnf); first | refine CondVC.t ?_ | refine CondVC.f ?_ | refine CondVC.dec (fun h => ?_) (fun h => ?_) | refine CondVC.ndec (fun h => ?_) (fun h => ?_) | refine CondVC.mk (fun h => ?_) (fun h => ?_) | refine ArVC.i64 (by first | omega | (simp only; omega)) ?_ | refine SideVC.mk (by first | omega | decide | (simp only; omega) | (simp [slS]; done) | (simp [slS]; omega) | (simp only [byteE_len, mvE_len, strE_len, intE_len, esC_len, List.length_cons, List.length_nil, List.length_append, List.length_replicate, List.length_set, Int.toNat_natCast, and_true] at *; omega)) ?_ | refine LoopN.go ?_ | exact trivial | refine AltVC.mk ?_ ?_ | refine HeldVC.mk rfl ?_ | refine CallVC.pure h0 rfl ?_ | refine OpVC.more tt_ok ?_ | refine RestVC.ext tt_ok ?_)); all_goals (conv => whnf)
    all_goals exact RetVC.res rfl rfl
  | true =>
  rw [ha] at h0
  obtain ⟨hok, hlw⟩ := few_ok ha
  have hw : w.length ≤ 14 := by omega
  rw [if_pos rfl]
  have h1 := Spec.ren [(1001, 2001)] [(2001, 1001)] (reLayers_spec w hok hw) rfl rfl rfl
  have hget : ∀ k, k < depthF w + 1 → (nestF w)[k]? = some (strE (layF w k)) := fun k hk => nestTo_get hk
  have hel : (nestF w).length = depthF w + 1 := nestTo_len w _
  have hD := depth_pot w
  have hpp := pot_small hw
  have hfound : ∀ k v, v ∈ layF w k → (movesF v both).length = 0 → (∀ j, j < k → ∀ u ∈ layF w j, (movesF u both).length ≠ 0) → stopF w = k := fun k v h hz hn => stopF_eq ⟨v, h, hz⟩ fun j hj ⟨u, hu, hz⟩ => hn j hj u hu hz
  have hnot : ¬ ∀ j, j < depthF w + 1 → ∀ u ∈ layF w j, (movesF u both).length ≠ 0 := fun hn => by
    obtain ⟨u, hu, hz⟩ := stop_last w
    exact hn _ (Nat.lt_succ_self _) u hu hz
  have hlok : ∀ k, ∀ u ∈ layF w k, u.all okCh = true ∧ u.length ≤ 14 := fun k u hu => by
    obtain ⟨a, b, _⟩ := reach_ok hok (lay_mem.1 hu)
    exact ⟨a, by omega⟩
  have hfew := fun k => lay_few hok hw k
  generalize layF w = ly at *
  generalize stopF w = q at *
  generalize nestF w = ne at *
  generalize depthF w = D at *
  (repeat' ((conv => whnf); first | refine CondVC.t ?_ | refine CondVC.f ?_ | refine CondVC.dec (fun h => ?_) (fun h => ?_) | refine CondVC.ndec (fun h => ?_) (fun h => ?_) | refine CondVC.mk (fun h => ?_) (fun h => ?_) | refine ArVC.i64 (by first | omega | (simp only; omega)) ?_ | refine SideVC.mk (by first | omega | decide | (simp only; omega) | (simp [slS]; done) | (simp [slS]; omega) | (simp only [byteE_len, mvE_len, strE_len, intE_len, esC_len, List.length_cons, List.length_nil, List.length_append, List.length_replicate, List.length_set, Int.toNat_natCast, and_true] at *; omega)) ?_ | refine LoopN.go ?_ | exact trivial | refine AltVC.mk ?_ ?_ | refine HeldVC.mk rfl ?_ | refine CallVC.pure h0 rfl ?_ | refine CallVC.res [] rfl h1 rfl ?_ | refine OpVC.more tt_ok ?_ | refine RestVC.ext tt_ok ?_)); all_goals (conv => whnf)
  refine LoopVC.mk (G := Nat) (fun k => ⟨[(16, .v (i64 k)), (15, .v (i64 ne.length)), (14, .v (.c (.sl 2001))), (4, .v (.c (.sl 2001)))], [(2001, .ext (.nest 40 9 1 ne []))]⟩)
    (fun k => k ≤ D + 1 ∧ ∀ j, j < k → ∀ u ∈ ly j, (movesF u both).length ≠ 0) (fun k => D + 1 - k) 0 ⟨Nat.zero_le _, fun j h => absurd h (Nat.not_lt_zero _)⟩ (Sub.mk [] _ ⟨rfl, rfl, rfl, rfl, trivial⟩ rfl rfl) ?_
  intro k ⟨hk, hno⟩
  by_cases hkl : k < D + 1
  · have g0 : ne[(k : Int).toNat]? = some (strE (ly k)) := by rw [Int.toNat_natCast]; exact hget k hkl
    have hfk := hfew k
    have hlk := hlok k
    have hfd := fun v h hz => hfound k v h hz hno
    have hnok : (∀ u ∈ ly k, (movesF u both).length ≠ 0) → ∀ j, j < k + 1 → ∀ u ∈ ly j, (movesF u both).length ≠ 0 := fun h j hj => by
      by_cases e : j = k
      · subst e; exact h
      · exact hno j (by omega)
    generalize ly k = l at *
    have hsl := strE_len l
    (repeat' ((conv => whnf); first | refine CondVC.t ?_ | refine CondVC.f ?_ | refine CondVC.dec (fun h => ?_) (fun h => ?_) | refine CondVC.ndec (fun h => ?_) (fun h => ?_) | refine CondVC.mk (fun h => ?_) (fun h => ?_) | refine ArVC.i64 (by first | omega | (simp only; omega)) ?_ | refine SideVC.mk (by first | omega | decide | (simp only; omega) | (simp [slS]; done) | (simp [slS]; omega) | (simp only [byteE_len, mvE_len, strE_len, intE_len, esC_len, List.length_cons, List.length_nil, List.length_append, List.length_replicate, List.length_set, Int.toNat_natCast, and_true] at *; omega)) ?_ | refine LoopN.go ?_ | exact trivial | refine AltVC.mk ?_ ?_ | refine HeldVC.mk rfl ?_ | refine RestVC2.nestAddr tt_ok rfl rfl rfl rfl rfl (by rw [hel]; omega) ?_ | refine RestVC2.nestLoad tt_ok rfl rfl rfl rfl (by rw [hel]; omega) ?_ | refine RestVC2.insLen tt_ok rfl rfl rfl rfl g0 ?_ | refine OpVC.more tt_ok ?_ | refine RestVC.ext tt_ok ?_)); all_goals (conv => whnf)
    all_goals try (exfalso; omega)
    refine LoopVC.mk (G := Nat) (fun i => ⟨[(23, .v (i64 i)), (22, .v (i64 l.length)), (21, .v (.c (.ins 2001 ((k : Int).toNat)))), (5, .v (i64 k)), (16, .v (i64 k)), (15, .v (i64 ne.length)), (14, .v (.c (.sl 2001))), (4, .v (.c (.sl 2001)))], [(2001, .ext (.nest 40 9 1 ne []))]⟩)
      (fun i => i ≤ l.length ∧ ∀ j (hj : j < l.length), j < i → (movesF l[j] both).length ≠ 0) (fun i => l.length - i) 0 ⟨Nat.zero_le _, fun j hj h => absurd h (Nat.not_lt_zero _)⟩ (Sub.mk [] _ ⟨rfl, by rw [hsl]; rfl, rfl, rfl, rfl, rfl, rfl, rfl, trivial⟩ rfl rfl) ?_
    intro i ⟨hi, hin⟩
    by_cases hil : i < l.length
    · have gi : (strE l)[(i : Int).toNat]? = some [.str l[i]] := by rw [Int.toNat_natCast]; exact strE_get hil
      obtain ⟨ho, hl14⟩ := hlk _ (List.getElem_mem hil)
      have hm := Spec.ren [(1001, 2002)] [(2002, 1001)] (liMoves_spec l[i] true true ho (by omega)) rfl rfl rfl
      rw [liMoves_eq ho, show kindsF true true = both from rfl] at hm
      have hml := mvE_len (movesF l[i] both)
      by_cases he : (movesF l[i] both).length = 0
      · have hq := hfd _ (List.getElem_mem hil) he
        subst hq
        generalize movesF l[i] both = ml at *
        generalize l[i] = v at *
        (repeat' ((conv => whnf); first | refine CondVC.t ?_ | refine CondVC.f ?_ | refine CondVC.dec (fun h => ?_) (fun h => ?_) | refine CondVC.ndec (fun h => ?_) (fun h => ?_) | refine CondVC.mk (fun h => ?_) (fun h => ?_) | refine ArVC.i64 (by first | omega | (simp only; omega)) ?_ | refine SideVC.mk (by first | omega | decide | (simp only; omega) | (simp [slS]; done) | (simp [slS]; omega) | (simp only [byteE_len, mvE_len, strE_len, intE_len, esC_len, List.length_cons, List.length_nil, List.length_append, List.length_replicate, List.length_set, Int.toNat_natCast, and_true] at *; omega)) ?_ | refine LoopN.go ?_ | exact trivial | refine AltVC.mk ?_ ?_ | refine HeldVC.mk rfl ?_ | refine RestVC2.insAddr tt_ok rfl rfl rfl rfl rfl g0 (by rw [hsl]; omega) ?_ | refine RestVC2.insLoad tt_ok rfl rfl rfl g0 gi rfl ?_ | refine CallVC.res [] rfl hm rfl ?_ | refine OpVC.more tt_ok ?_ | refine RestVC.ext tt_ok ?_)); all_goals (conv => whnf)
        all_goals first
          | (exfalso; omega)
          | exact RetVC.res rfl rfl
      · have hst : ∀ j (hj : j < l.length), j < i + 1 → (movesF l[j] both).length ≠ 0 := fun j hj h => by
          by_cases e : j = i
          · subst e; exact he
          · exact hin j hj (by omega)
        generalize movesF l[i] both = ml at *
        generalize l[i] = v at *
        (repeat' ((conv => whnf); first | refine CondVC.t ?_ | refine CondVC.f ?_ | refine CondVC.dec (fun h => ?_) (fun h => ?_) | refine CondVC.ndec (fun h => ?_) (fun h => ?_) | refine CondVC.mk (fun h => ?_) (fun h => ?_) | refine ArVC.i64 (by first | omega | (simp only; omega)) ?_ | refine SideVC.mk (by first | omega | decide | (simp only; omega) | (simp [slS]; done) | (simp [slS]; omega) | (simp only [byteE_len, mvE_len, strE_len, intE_len, esC_len, List.length_cons, List.length_nil, List.length_append, List.length_replicate, List.length_set, Int.toNat_natCast, and_true] at *; omega)) ?_ | refine LoopN.go ?_ | exact trivial | refine AltVC.mk ?_ ?_ | refine HeldVC.mk rfl ?_ | refine RestVC2.insAddr tt_ok rfl rfl rfl rfl rfl g0 (by rw [hsl]; omega) ?_ | refine RestVC2.insLoad tt_ok rfl rfl rfl g0 gi rfl ?_ | refine CallVC.res [] rfl hm rfl ?_ | refine OpVC.more tt_ok ?_ | refine RestVC.ext tt_ok ?_)); all_goals (conv => whnf)
        all_goals first
          | (exfalso; omega)
          | exact ⟨i + 1, ⟨by omega, hst⟩, by omega, Sub.mk [] _ ⟨rfl, rfl, rfl, rfl, rfl, rfl, rfl, rfl, trivial⟩ rfl rfl⟩
    · have hnm : ∀ u ∈ l, (movesF u both).length ≠ 0 := fun u h => by
        obtain ⟨j, hj, e⟩ := List.getElem_of_mem h
        rw [← e]; exact hin j hj (by omega)
      (repeat' ((conv => whnf); first | refine CondVC.t ?_ | refine CondVC.f ?_ | refine CondVC.dec (fun h => ?_) (fun h => ?_) | refine CondVC.ndec (fun h => ?_) (fun h => ?_) | refine CondVC.mk (fun h => ?_) (fun h => ?_) | refine ArVC.i64 (by first | omega | (simp only; omega)) ?_ | refine SideVC.mk (by first | omega | decide | (simp only; omega) | (simp [slS]; done) | (simp [slS]; omega) | (simp only [byteE_len, mvE_len, strE_len, intE_len, esC_len, List.length_cons, List.length_nil, List.length_append, List.length_replicate, List.length_set, Int.toNat_natCast, and_true] at *; omega)) ?_ | refine LoopN.go ?_ | exact trivial | refine AltVC.mk ?_ ?_ | refine HeldVC.mk rfl ?_ | refine OpVC.more tt_ok ?_ | refine RestVC.ext tt_ok ?_)); all_goals (conv => whnf)
      all_goals first
        | (exfalso; omega)
        | exact ⟨k + 1, ⟨by omega, hnok hnm⟩, by omega, Sub.mk [] _ ⟨rfl, rfl, rfl, rfl, trivial⟩ rfl rfl⟩
  · exact absurd (fun j hj => hno j (by omega)) hnot
theorem lawShortestStop_spec (w : Tx) (hw : w.length ≤ 9223372036854775807) : Spec Tryd.prog 8 [.c (.str w)] [] (isRes [vb true] []) := by
  refine Spec.of_wpx tt_ok Tryd.func8 (by kernel_rfl) rfl ?_
  (repeat' ((conv => whnf); first | refine CondVC.t ?_ | refine CondVC.f ?_ | refine CondVC.dec (fun h => ?_) (fun h => ?_) | refine CondVC.ndec (fun h => ?_) (fun h => ?_) | refine CondVC.mk (fun h => ?_) (fun h => ?_) | refine ArVC.i64 (by first | omega | (simp only; omega)) ?_ | refine SideVC.mk (by first | omega | decide | (simp only; omega) | (simp [slS]; done) | (simp [slS]; omega) | (simp only [byteE_len, mvE_len, strE_len, intE_len, esC_len, List.length_cons, List.length_nil, List.length_append, List.length_replicate, List.length_set, Int.toNat_natCast, and_true] at *; omega)) ?_ | refine LoopN.go ?_ | exact trivial | refine AltVC.mk ?_ ?_ | refine HeldVC.mk rfl ?_ | refine CallVC.pure (specShortestStop_spec w (by omega)) rfl ?_ | refine CallVC.pure (implShortestStop_spec w (by omega)) rfl ?_ | refine OpVC.more tt_ok ?_ | refine RestVC.ext tt_ok ?_)); all_goals (conv => whnf)
  all_goals first | exact RetVC.res rfl rfl | (exfalso; simp_all; done)
end Go.Proofs.YtnekgpjgekakkaaDoor.X
