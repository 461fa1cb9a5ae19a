/- How many plays lead from a line to another one: the program's and the reference's. No condition beyond each statement's. -/
import Derived.Test.YtnekgpjgekakkaaDoorCounts
import Derived.Test.YtnekgpjgekakkaaDoorBetween
import Derived.Test.YtnekgpjgekakkaaDoorWays
namespace Go.Proofs.YtnekgpjgekakkaaDoor.X
open Go.Proofs
set_option maxRecDepth 100000
set_option linter.unusedVariables false
set_option linter.unusedSimpArgs false

def cpF (w v : Tx) : Int := if bothF w v then wp v w else 0
theorem implCountPlays_spec (w v : Tx) (hw : w.length ≤ 1048576) (hv : v.length ≤ 1048576) : Spec Tryd.prog 27 [.c (.str w), .c (.str v)] [] (isRes [i64 (cpF w v), vb (bothF w v)] []) := by
  have h1 := isReachLine_spec w hw
  have h2 := isReachLine_spec v hv
  unfold cpF bothF
  refine Spec.of_wpx tt_ok Tryd.func27 (by kernel_rfl) rfl ?_
  cases ha : lineOf w 10 with
  | false =>
    rw [ha] at h1
    (repeat' ((conv => whnf); first | refine CondVC.t ?_ | refine CondVC.f ?_ | refine CondVC.dec (fun h => ?_) (fun h => ?_) | refine CondVC.ndec (fun h => ?_) (fun h => ?_) | refine CondVC.mk (fun h => ?_) (fun h => ?_) | refine ArVC.i64 (by first | omega | (simp only; omega)) ?_ | refine SideVC.mk (by first | omega | decide | (simp only; omega) | (simp [slS]; done) | (simp [slS]; omega) | (simp only [byteE_len, mvE_len, strE_len, intE_len, esC_len, List.length_cons, List.length_nil, List.length_append, List.length_replicate, List.length_set, Int.toNat_natCast, and_true] at *; omega)) ?_ | refine LoopN.go ?_ | exact trivial | refine AltVC.mk ?_ ?_ | refine HeldVC.mk rfl ?_ | refine CallVC.pure h1 rfl ?_ | refine OpVC.more tt_ok ?_ | refine RestVC.ext tt_ok ?_)); all_goals (conv => whnf)
    all_goals exact RetVC.res rfl rfl
  | true =>
    rw [ha] at h1
    cases hb : lineOf v 10 with
    | false =>
      rw [hb] at h2
      (repeat' ((conv => whnf); first | refine CondVC.t ?_ | refine CondVC.f ?_ | refine CondVC.dec (fun h => ?_) (fun h => ?_) | refine CondVC.ndec (fun h => ?_) (fun h => ?_) | refine CondVC.mk (fun h => ?_) (fun h => ?_) | refine ArVC.i64 (by first | omega | (simp only; omega)) ?_ | refine SideVC.mk (by first | omega | decide | (simp only; omega) | (simp [slS]; done) | (simp [slS]; omega) | (simp only [byteE_len, mvE_len, strE_len, intE_len, esC_len, List.length_cons, List.length_nil, List.length_append, List.length_replicate, List.length_set, Int.toNat_natCast, and_true] at *; omega)) ?_ | refine LoopN.go ?_ | exact trivial | refine AltVC.mk ?_ ?_ | refine HeldVC.mk rfl ?_ | refine CallVC.pure h1 rfl ?_ | refine CallVC.pure h2 rfl ?_ | refine OpVC.more tt_ok ?_ | refine RestVC.ext tt_ok ?_)); all_goals (conv => whnf)
      all_goals exact RetVC.res rfl rfl
    | true =>
      rw [hb] at h2
      have hl := (few_ok ha).2
      have h4 := Spec.ren [(1000, 2000)] [(2000, 1000)] (to_spec v) rfl rfl rfl
      have h5 := Spec.renE [(1000, 2000)] [(2000, 1000)] (ways_all v w (by omega) _ (okWays_one v)) (fun _ => rfl) (fun _ => rfl) rfl
      generalize wp v w = q at *
      (repeat' ((conv => whnf); first | refine CondVC.t ?_ | refine CondVC.f ?_ | refine CondVC.dec (fun h => ?_) (fun h => ?_) | refine CondVC.ndec (fun h => ?_) (fun h => ?_) | refine CondVC.mk (fun h => ?_) (fun h => ?_) | refine ArVC.i64 (by first | omega | (simp only; omega)) ?_ | refine SideVC.mk (by first | omega | decide | (simp only; omega) | (simp [slS]; done) | (simp [slS]; omega) | (simp only [byteE_len, mvE_len, strE_len, intE_len, esC_len, List.length_cons, List.length_nil, List.length_append, List.length_replicate, List.length_set, Int.toNat_natCast, and_true] at *; omega)) ?_ | refine LoopN.go ?_ | exact trivial | refine AltVC.mk ?_ ?_ | refine HeldVC.mk rfl ?_ | refine CallVC.pure h1 rfl ?_ | refine CallVC.pure h2 rfl ?_ | refine CallVC.res [] rfl h4 rfl ?_ | (refine CallVC.ex [2000] rfl h5 ?_; intro es' hes'; refine ⟨rfl, ?_⟩) | refine OpVC.more tt_ok ?_ | refine RestVC.ext tt_ok ?_)); all_goals (conv => whnf)
      all_goals exact RetVC.res rfl rfl

theorem specCountPlays_spec (w v : Tx) (hw : w.length ≤ 1048576) (hv : v.length ≤ 1048576) : Spec Tryd.prog 26 [.c (.str w), .c (.str v)] [] (isRes [i64 (cpF w v), vb (bothF w v)] []) := by
  have h1 := reFew_spec w hw
  have h2 := reFew_spec v hv
  unfold cpF bothF
  refine Spec.of_wpx tt_ok Tryd.func26 (by kernel_rfl) rfl ?_
  cases ha : lineOf w 10 with
  | false =>
    rw [ha] at h1
    (repeat' ((conv => whnf); first | refine CondVC.t ?_ | refine CondVC.f ?_ | refine CondVC.dec (fun h => ?_) (fun h => ?_) | refine CondVC.ndec (fun h => ?_) (fun h => ?_) | refine CondVC.mk (fun h => ?_) (fun h => ?_) | refine ArVC.i64 (by first | omega | (simp only; omega)) ?_ | refine SideVC.mk (by first | omega | decide | (simp only; omega) | (simp [slS]; done) | (simp [slS]; omega) | (simp only [byteE_len, mvE_len, strE_len, intE_len, esC_len, List.length_cons, List.length_nil, List.length_append, List.length_replicate, List.length_set, Int.toNat_natCast, and_true] at *; omega)) ?_ | refine LoopN.go ?_ | exact trivial | refine AltVC.mk ?_ ?_ | refine HeldVC.mk rfl ?_ | refine CallVC.pure h1 rfl ?_ | refine OpVC.more tt_ok ?_ | refine RestVC.ext tt_ok ?_)); all_goals (conv => whnf)
    all_goals exact RetVC.res rfl rfl
  | true =>
  rw [ha] at h1
  cases hb : lineOf v 10 with
  | false =>
    rw [hb] at h2
    (repeat' ((conv => whnf); first | refine CondVC.t ?_ | refine CondVC.f ?_ | refine CondVC.dec (fun h => ?_) (fun h => ?_) | refine CondVC.ndec (fun h => ?_) (fun h => ?_) | refine CondVC.mk (fun h => ?_) (fun h => ?_) | refine ArVC.i64 (by first | omega | (simp only; omega)) ?_ | refine SideVC.mk (by first | omega | decide | (simp only; omega) | (simp [slS]; done) | (simp [slS]; omega) | (simp only [byteE_len, mvE_len, strE_len, intE_len, esC_len, List.length_cons, List.length_nil, List.length_append, List.length_replicate, List.length_set, Int.toNat_natCast, and_true] at *; omega)) ?_ | refine LoopN.go ?_ | exact trivial | refine AltVC.mk ?_ ?_ | refine HeldVC.mk rfl ?_ | refine CallVC.pure h1 rfl ?_ | refine CallVC.pure h2 rfl ?_ | refine OpVC.more tt_ok ?_ | refine RestVC.ext tt_ok ?_)); all_goals (conv => whnf)
    all_goals exact RetVC.res rfl rfl
  | true =>
  rw [hb] at h2
  obtain ⟨hok, hlw⟩ := few_ok ha
  have hw14 : w.length ≤ 14 := by omega
  rw [show (true && true) = true from rfl, if_pos rfl]
  have h3 := Spec.ren [(1001, 2001)] [(2001, 1001)] (reLayers_spec w hok hw14) rfl rfl rfl
  have hget : ∀ k, k < depthF w + 1 → (nestF w)[k]? = some (strE (layF w k)) := fun k hk => nestTo_get hk
  have hel : (nestF w).length = depthF w + 1 := nestTo_len w _
  have hD := depth_pot w
  have hpp := pot_small hw14
  have hfound : ∀ k, v ∈ layF w k → wp v w = IntKind.i64.wrap (numF w k v : Nat) := fun k h => by unfold wp; rw [plays_at h]
  have hnot : (∀ k, k ≤ depthF w → v ∉ layF w k) → wp v w = 0 := fun h => by
    unfold wp
    rw [plays_none fun k hk => h k (reach_depth (lay_mem.1 hk)) hk]; rfl
  have hfew := fun k => lay_few hok hw14 k
  have hstep : ∀ k, sumI (numF w k) (layF w k) (layF w k).length = numF w (k + 1) := fun k => funext (sumI_lay w k)
  have hlok : ∀ k, ∀ u ∈ layF w k, u.all okCh = true ∧ u.length ≤ 14 := fun k u hu => by
    obtain ⟨a, b, _⟩ := reach_ok hok (lay_mem.1 hu)
    exact ⟨a, by omega⟩
  have hc0 : [[C.int .i64 1]] = cntE (numF w 0) (layF w 0) := by
    show _ = cntE (numF w 0) [w]
    have : numF w 0 w = 1 := by simp [numF, endsF]
    unfold cntE; rw [List.map_cons, this]; rfl
  generalize layF w = ly at *
  generalize wp v w = q at *
  generalize nestF w = ne at *
  generalize depthF w = D at *
  generalize numF w = nf at *
  (repeat' ((conv => whnf); first | refine CondVC.t ?_ | refine CondVC.f ?_ | refine CondVC.dec (fun h => ?_) (fun h => ?_) | refine CondVC.ndec (fun h => ?_) (fun h => ?_) | refine CondVC.mk (fun h => ?_) (fun h => ?_) | refine ArVC.i64 (by first | omega | (simp only; omega)) ?_ | refine SideVC.mk (by first | omega | decide | (simp only; omega) | (simp [slS]; done) | (simp [slS]; omega) | (simp only [byteE_len, mvE_len, strE_len, intE_len, esC_len, List.length_cons, List.length_nil, List.length_append, List.length_replicate, List.length_set, Int.toNat_natCast, and_true] at *; omega)) ?_ | refine LoopN.go ?_ | exact trivial | refine AltVC.mk ?_ ?_ | refine HeldVC.mk rfl ?_ | refine CallVC.pure h1 rfl ?_ | refine CallVC.pure h2 rfl ?_ | refine CallVC.res [] rfl h3 rfl ?_ | refine OpVC.more tt_ok ?_ | refine RestVC.ext tt_ok ?_)); all_goals (conv => whnf)
  refine LoopVC.mk (G := Nat) (fun k => ⟨[(25, .v (i64 k)), (24, .v (i64 ne.length)), (23, .v (.c (.sl 2001))), (6, .v (.c (.sl 2001))), (7, .v (.c (.sl 3001))), (1, .v (.c (.str v)))], [(2001, .ext (.nest 40 9 1 ne [])), (3001, .sl 3 1 (cntE (nf (k - 1)) (ly (k - 1))))]⟩)
    (fun k => k ≤ D + 1 ∧ ∀ j, j < k → v ∉ ly j) (fun k => D + 1 - k) 0 ⟨Nat.zero_le _, fun j h => absurd h (Nat.not_lt_zero _)⟩ (Sub.mk [(3001, 22)] _ ⟨rfl, rfl, rfl, rfl, rfl, rfl, trivial⟩ (by rw [← hc0]; rfl) rfl) ?_
  intro k ⟨hk, hno⟩
  by_cases hkl : k < D + 1
  · have g0 : ne[(k : Int).toNat]? = some (strE (ly k)) := by rw [Int.toNat_natCast]; exact hget k hkl
    have hfk := hfew k
    have hfd := hfound k
    have hnok : v ∉ ly k → ∀ j, j < k + 1 → v ∉ ly j := fun h j hj => by
      by_cases e : j = k
      · subst e; exact h
      · exact hno j (by omega)
    cases k with
    | zero =>
    have hcs : cntE (nf 0) (ly 0) = cntE (nf 0) (ly 0) := rfl
    generalize hly : ly 0 = l at *
    generalize hnf : nf 0 = c at *
    have hsl := strE_len l
    have hcl := cntE_len c l
    (repeat' ((conv => whnf); first | refine CondVC.t ?_ | refine CondVC.f ?_ | refine CondVC.dec (fun h => ?_) (fun h => ?_) | refine CondVC.ndec (fun h => ?_) (fun h => ?_) | refine CondVC.mk (fun h => ?_) (fun h => ?_) | refine ArVC.i64 (by first | omega | (simp only; omega)) ?_ | refine SideVC.mk (by first | omega | decide | (simp only; omega) | (simp [slS]; done) | (simp [slS]; omega) | (simp only [byteE_len, mvE_len, strE_len, intE_len, esC_len, List.length_cons, List.length_nil, List.length_append, List.length_replicate, List.length_set, Int.toNat_natCast, and_true] at *; omega)) ?_ | refine LoopN.go ?_ | exact trivial | refine AltVC.mk ?_ ?_ | refine HeldVC.mk rfl ?_ | refine RestVC2.nestAddr tt_ok rfl rfl rfl rfl rfl (by rw [hel]; omega) ?_ | refine RestVC2.nestLoad tt_ok rfl rfl rfl rfl (by rw [hel]; omega) ?_ | refine RestVC2.insLen tt_ok rfl rfl rfl rfl g0 ?_ | refine OpVC.more tt_ok ?_ | refine RestVC.ext tt_ok ?_)); all_goals (conv => whnf)
    all_goals try (exfalso; omega)
    refine LoopVC.mk (G := Nat) (fun i => ⟨[(42, .v (i64 i)), (41, .v (i64 l.length)), (40, .v (.c (.ins 2001 ((0 : Nat) : Int).toNat))), (8, .v (i64 ((0 : Nat) : Int))), (7, .v (.c (.sl 3001))), (6, .v (.c (.sl 2001))), (25, .v (i64 ((0 : Nat) : Int))), (24, .v (i64 ne.length)), (23, .v (.c (.sl 2001))), (1, .v (.c (.str v)))], [(2001, .ext (.nest 40 9 1 ne [])), (3001, .sl 3 1 (cntE c l))]⟩)
      (fun i => i ≤ l.length ∧ ∀ j (hj : j < l.length), j < i → l[j] ≠ v) (fun i => l.length - i) 0 ⟨Nat.zero_le _, fun j hj h => absurd h (Nat.not_lt_zero _)⟩ (Sub.mk [(3001, 3001)] _ ⟨rfl, by rw [hsl]; rfl, rfl, rfl, rfl, rfl, rfl, rfl, rfl, rfl, trivial⟩ rfl rfl) ?_
    intro i ⟨hi, hin⟩
    by_cases hil : i < l.length
    · have gi : (strE l)[(i : Int).toNat]? = some [.str l[i]] := by rw [Int.toNat_natCast]; exact strE_get hil
      have gc : (cntE c l)[(i : Int).toNat]? = some (wn (c l[i])) := by rw [Int.toNat_natCast]; exact cntE_get hil
      by_cases he : l[i] = v
      · have hq := hfd (by rw [← he]; exact List.getElem_mem hil)
        subst hq
        rw [he] at gc
        (repeat' ((conv => whnf); first | refine CondVC.t ?_ | refine CondVC.f ?_ | refine CondVC.dec (fun h => ?_) (fun h => ?_) | refine CondVC.ndec (fun h => ?_) (fun h => ?_) | refine CondVC.mk (fun h => ?_) (fun h => ?_) | refine ArVC.i64 (by first | omega | (simp only; omega)) ?_ | refine SideVC.mk (by first | omega | decide | (simp only; omega) | (simp [slS]; done) | (simp [slS]; omega) | (simp only [byteE_len, mvE_len, strE_len, intE_len, esC_len, List.length_cons, List.length_nil, List.length_append, List.length_replicate, List.length_set, Int.toNat_natCast, and_true] at *; omega)) ?_ | refine LoopN.go ?_ | exact trivial | refine AltVC.mk ?_ ?_ | refine HeldVC.mk rfl ?_ | refine RestVC2.insAddr tt_ok rfl rfl rfl rfl rfl g0 (by rw [hsl]; omega) ?_ | refine RestVC2.insLoad tt_ok rfl rfl rfl g0 gi rfl ?_ | refine LoadVC.mk _ gc ?_ | refine SideVC.mk (by simp only [hcl]; omega) ?_ | refine OpVC.more tt_ok ?_ | refine RestVC.ext tt_ok ?_)); all_goals (conv => whnf)
        all_goals first
          | (exfalso; omega)
          | exact RetVC.res rfl rfl
          | (exfalso; simp_all; done)
      · (repeat' ((conv => whnf); first | refine CondVC.t ?_ | refine CondVC.f ?_ | refine CondVC.dec (fun h => ?_) (fun h => ?_) | refine CondVC.ndec (fun h => ?_) (fun h => ?_) | refine CondVC.mk (fun h => ?_) (fun h => ?_) | refine ArVC.i64 (by first | omega | (simp only; omega)) ?_ | refine SideVC.mk (by first | omega | decide | (simp only; omega) | (simp [slS]; done) | (simp [slS]; omega) | (simp only [byteE_len, mvE_len, strE_len, intE_len, esC_len, List.length_cons, List.length_nil, List.length_append, List.length_replicate, List.length_set, Int.toNat_natCast, and_true] at *; omega)) ?_ | refine LoopN.go ?_ | exact trivial | refine AltVC.mk ?_ ?_ | refine HeldVC.mk rfl ?_ | refine RestVC2.insAddr tt_ok rfl rfl rfl rfl rfl g0 (by rw [hsl]; omega) ?_ | refine RestVC2.insLoad tt_ok rfl rfl rfl g0 gi rfl ?_ | refine OpVC.more tt_ok ?_ | refine RestVC.ext tt_ok ?_)); all_goals (conv => whnf)
        all_goals first
          | (exfalso; omega)
          | exact ⟨i + 1, ⟨by omega, fun j hj h => by
              by_cases e : j = i
              · subst e; exact he
              · exact hin j hj (by omega)⟩, by omega, Sub.mk [] _ ⟨rfl, rfl, rfl, rfl, rfl, rfl, rfl, rfl, rfl, rfl, trivial⟩ rfl rfl⟩
          | (exfalso; simp_all; done)
    · have hnm : v ∉ l := fun h => by
        obtain ⟨j, hj, e⟩ := List.getElem_of_mem h
        exact hin j hj (by omega) e
      (repeat' ((conv => whnf); first | refine CondVC.t ?_ | refine CondVC.f ?_ | refine CondVC.dec (fun h => ?_) (fun h => ?_) | refine CondVC.ndec (fun h => ?_) (fun h => ?_) | refine CondVC.mk (fun h => ?_) (fun h => ?_) | refine ArVC.i64 (by first | omega | (simp only; omega)) ?_ | refine SideVC.mk (by first | omega | decide | (simp only; omega) | (simp [slS]; done) | (simp [slS]; omega) | (simp only [byteE_len, mvE_len, strE_len, intE_len, esC_len, List.length_cons, List.length_nil, List.length_append, List.length_replicate, List.length_set, Int.toNat_natCast, and_true] at *; omega)) ?_ | refine LoopN.go ?_ | exact trivial | refine AltVC.mk ?_ ?_ | refine HeldVC.mk rfl ?_ | refine OpVC.more tt_ok ?_ | refine RestVC.ext tt_ok ?_)); all_goals (conv => whnf)
      all_goals first
        | (exfalso; omega)
        | exact ⟨0 + 1, ⟨by omega, hnok hnm⟩, by omega, Sub.mk [] _ ⟨rfl, rfl, rfl, rfl, rfl, rfl, trivial⟩ (by rw [Nat.add_sub_cancel, hly, hnf]; rfl) rfl⟩
    | succ k =>
    have g1 : ne[(((k + 1 : Nat) : Int) - 1).toNat]? = some (strE (ly k)) := by
      rw [show (((k + 1 : Nat) : Int) - 1).toNat = k by omega]; exact hget k (by omega)
    have hh2 : holeAt [((((k + 1 : Nat) : Int) - 1).toNat, 9001)] ((k + 1 : Nat) : Int).toNat = none := by
      unfold holeAt
      rw [if_neg (by omega)]; rfl
    have hrc := Spec.ren [(1000, 9001), (1001, 3001), (1002, 9002), (1003, 3003)] [(9001, 1000), (3001, 1001), (9002, 1002), (3003, 1003)] (reCounts_spec (ly k) (ly (k + 1)) (nf k) (hfew k) hfk (hlok k)) rfl rfl rfl
    rw [hstep k] at hrc
    simp only [Nat.add_sub_cancel]
    generalize hly : ly (k + 1) = l at *
    generalize hnf : nf (k + 1) = c at *
    generalize ly k = l0 at *
    generalize nf k = c0 at *
    have hsl := strE_len l
    have hcl := cntE_len c l
    (repeat' ((conv => whnf); first | refine CondVC.t ?_ | refine CondVC.f ?_ | refine CondVC.dec (fun h => ?_) (fun h => ?_) | refine CondVC.ndec (fun h => ?_) (fun h => ?_) | refine CondVC.mk (fun h => ?_) (fun h => ?_) | refine ArVC.i64 (by first | omega | (simp only; omega)) ?_ | refine SideVC.mk (by first | omega | decide | (simp only; omega) | (simp [slS]; done) | (simp [slS]; omega) | (simp only [byteE_len, mvE_len, strE_len, intE_len, esC_len, List.length_cons, List.length_nil, List.length_append, List.length_replicate, List.length_set, Int.toNat_natCast, and_true] at *; omega)) ?_ | refine LoopN.go ?_ | exact trivial | refine AltVC.mk ?_ ?_ | refine HeldVC.mk rfl ?_ | refine RestVC2.nestAddr tt_ok rfl rfl rfl rfl rfl (by rw [hel]; omega) ?_ | refine RestVC2.nestLoad tt_ok rfl rfl rfl rfl (by rw [hel]; omega) ?_ | refine RestVC2.insLen tt_ok rfl rfl rfl rfl g0 ?_ | (refine CallVC.inner 9001 2001 (((k + 1 : Nat) : Int) - 1).toNat [.c (.sl 9001), .c (.sl 3001), .c (.ins 2001 ((k + 1 : Nat) : Int).toNat)] rfl rfl g1 rfl rfl ?_; refine CallVC.inner 9002 2001 ((k + 1 : Nat) : Int).toNat [.c (.sl 9001), .c (.sl 3001), .c (.sl 9002)] rfl rfl g0 hh2 rfl ?_; refine CallVC.res [9001, 3001, 9002] rfl hrc rfl ?_; refine BackVC.same rfl rfl g0 hh2 rfl ?_; refine BackVC.same rfl rfl g1 rfl rfl ?_) | refine OpVC.more tt_ok ?_ | refine RestVC.ext tt_ok ?_)); all_goals (conv => whnf)
    all_goals try (exfalso; omega)
    refine LoopVC.mk (G := Nat) (fun i => ⟨[(42, .v (i64 i)), (41, .v (i64 l.length)), (40, .v (.c (.ins 2001 (((k + 1) : Nat) : Int).toNat))), (8, .v (i64 (((k + 1) : Nat) : Int))), (7, .v (.c (.sl 3001))), (6, .v (.c (.sl 2001))), (25, .v (i64 (((k + 1) : Nat) : Int))), (24, .v (i64 ne.length)), (23, .v (.c (.sl 2001))), (1, .v (.c (.str v)))], [(2001, .ext (.nest 40 9 1 ne [])), (3001, .sl 3 1 (cntE c l))]⟩)
      (fun i => i ≤ l.length ∧ ∀ j (hj : j < l.length), j < i → l[j] ≠ v) (fun i => l.length - i) 0 ⟨Nat.zero_le _, fun j hj h => absurd h (Nat.not_lt_zero _)⟩ (Sub.mk [(3001, 3003)] _ ⟨rfl, by rw [hsl]; rfl, rfl, rfl, rfl, rfl, rfl, rfl, rfl, rfl, trivial⟩ rfl rfl) ?_
    intro i ⟨hi, hin⟩
    by_cases hil : i < l.length
    · have gi : (strE l)[(i : Int).toNat]? = some [.str l[i]] := by rw [Int.toNat_natCast]; exact strE_get hil
      have gc : (cntE c l)[(i : Int).toNat]? = some (wn (c l[i])) := by rw [Int.toNat_natCast]; exact cntE_get hil
      by_cases he : l[i] = v
      · have hq := hfd (by rw [← he]; exact List.getElem_mem hil)
        subst hq
        rw [he] at gc
        (repeat' ((conv => whnf); first | refine CondVC.t ?_ | refine CondVC.f ?_ | refine CondVC.dec (fun h => ?_) (fun h => ?_) | refine CondVC.ndec (fun h => ?_) (fun h => ?_) | refine CondVC.mk (fun h => ?_) (fun h => ?_) | refine ArVC.i64 (by first | omega | (simp only; omega)) ?_ | refine SideVC.mk (by first | omega | decide | (simp only; omega) | (simp [slS]; done) | (simp [slS]; omega) | (simp only [byteE_len, mvE_len, strE_len, intE_len, esC_len, List.length_cons, List.length_nil, List.length_append, List.length_replicate, List.length_set, Int.toNat_natCast, and_true] at *; omega)) ?_ | refine LoopN.go ?_ | exact trivial | refine AltVC.mk ?_ ?_ | refine HeldVC.mk rfl ?_ | refine RestVC2.insAddr tt_ok rfl rfl rfl rfl rfl g0 (by rw [hsl]; omega) ?_ | refine RestVC2.insLoad tt_ok rfl rfl rfl g0 gi rfl ?_ | refine LoadVC.mk _ gc ?_ | refine SideVC.mk (by simp only [hcl]; omega) ?_ | refine OpVC.more tt_ok ?_ | refine RestVC.ext tt_ok ?_)); all_goals (conv => whnf)
        all_goals first
          | (exfalso; omega)
          | exact RetVC.res rfl rfl
          | (exfalso; simp_all; done)
      · (repeat' ((conv => whnf); first | refine CondVC.t ?_ | refine CondVC.f ?_ | refine CondVC.dec (fun h => ?_) (fun h => ?_) | refine CondVC.ndec (fun h => ?_) (fun h => ?_) | refine CondVC.mk (fun h => ?_) (fun h => ?_) | refine ArVC.i64 (by first | omega | (simp only; omega)) ?_ | refine SideVC.mk (by first | omega | decide | (simp only; omega) | (simp [slS]; done) | (simp [slS]; omega) | (simp only [byteE_len, mvE_len, strE_len, intE_len, esC_len, List.length_cons, List.length_nil, List.length_append, List.length_replicate, List.length_set, Int.toNat_natCast, and_true] at *; omega)) ?_ | refine LoopN.go ?_ | exact trivial | refine AltVC.mk ?_ ?_ | refine HeldVC.mk rfl ?_ | refine RestVC2.insAddr tt_ok rfl rfl rfl rfl rfl g0 (by rw [hsl]; omega) ?_ | refine RestVC2.insLoad tt_ok rfl rfl rfl g0 gi rfl ?_ | refine OpVC.more tt_ok ?_ | refine RestVC.ext tt_ok ?_)); all_goals (conv => whnf)
        all_goals first
          | (exfalso; omega)
          | exact ⟨i + 1, ⟨by omega, fun j hj h => by
              by_cases e : j = i
              · subst e; exact he
              · exact hin j hj (by omega)⟩, by omega, Sub.mk [] _ ⟨rfl, rfl, rfl, rfl, rfl, rfl, rfl, rfl, rfl, rfl, trivial⟩ rfl rfl⟩
          | (exfalso; simp_all; done)
    · have hnm : v ∉ l := fun h => by
        obtain ⟨j, hj, e⟩ := List.getElem_of_mem h
        exact hin j hj (by omega) e
      (repeat' ((conv => whnf); first | refine CondVC.t ?_ | refine CondVC.f ?_ | refine CondVC.dec (fun h => ?_) (fun h => ?_) | refine CondVC.ndec (fun h => ?_) (fun h => ?_) | refine CondVC.mk (fun h => ?_) (fun h => ?_) | refine ArVC.i64 (by first | omega | (simp only; omega)) ?_ | refine SideVC.mk (by first | omega | decide | (simp only; omega) | (simp [slS]; done) | (simp [slS]; omega) | (simp only [byteE_len, mvE_len, strE_len, intE_len, esC_len, List.length_cons, List.length_nil, List.length_append, List.length_replicate, List.length_set, Int.toNat_natCast, and_true] at *; omega)) ?_ | refine LoopN.go ?_ | exact trivial | refine AltVC.mk ?_ ?_ | refine HeldVC.mk rfl ?_ | refine OpVC.more tt_ok ?_ | refine RestVC.ext tt_ok ?_)); all_goals (conv => whnf)
      all_goals first
        | (exfalso; omega)
        | exact ⟨(k + 1) + 1, ⟨by omega, hnok hnm⟩, by omega, Sub.mk [] _ ⟨rfl, rfl, rfl, rfl, rfl, rfl, trivial⟩ (by rw [Nat.add_sub_cancel, hly, hnf]; rfl) rfl⟩
  · have hq := hnot fun j hj => hno j (by omega)
    subst hq
    (repeat' ((conv => whnf); first | refine CondVC.t ?_ | refine CondVC.f ?_ | refine CondVC.dec (fun h => ?_) (fun h => ?_) | refine CondVC.ndec (fun h => ?_) (fun h => ?_) | refine CondVC.mk (fun h => ?_) (fun h => ?_) | refine ArVC.i64 (by first | omega | (simp only; omega)) ?_ | refine SideVC.mk (by first | omega | decide | (simp only; omega) | (simp [slS]; done) | (simp [slS]; omega) | (simp only [byteE_len, mvE_len, strE_len, intE_len, esC_len, List.length_cons, List.length_nil, List.length_append, List.length_replicate, List.length_set, Int.toNat_natCast, and_true] at *; omega)) ?_ | refine LoopN.go ?_ | exact trivial | refine AltVC.mk ?_ ?_ | refine HeldVC.mk rfl ?_ | refine OpVC.more tt_ok ?_ | refine RestVC.ext tt_ok ?_)); all_goals (conv => whnf)
    all_goals first
      | (exfalso; omega)
      | exact RetVC.res rfl rfl
theorem lawCountPlays_spec (w : Tx) (hw : w.length ≤ 9223372036854775807) (v : Tx) (hv : v.length ≤ 9223372036854775807) : Spec Tryd.prog 9 [.c (.str w), .c (.str v)] [] (isRes [vb true] []) := by
  refine Spec.of_wpx tt_ok Tryd.func9 (by kernel_rfl) rfl ?_
  (repeat' ((conv => whnf); first | refine CondVC.t ?_ | refine CondVC.f ?_ | refine CondVC.dec (fun h => ?_) (fun h => ?_) | refine CondVC.ndec (fun h => ?_) (fun h => ?_) | refine CondVC.mk (fun h => ?_) (fun h => ?_) | refine ArVC.i64 (by first | omega | (simp only; omega)) ?_ | refine SideVC.mk (by first | omega | decide | (simp only; omega) | (simp [slS]; done) | (simp [slS]; omega) | (simp only [byteE_len, mvE_len, strE_len, intE_len, esC_len, List.length_cons, List.length_nil, List.length_append, List.length_replicate, List.length_set, Int.toNat_natCast, and_true] at *; omega)) ?_ | refine LoopN.go ?_ | exact trivial | refine AltVC.mk ?_ ?_ | refine HeldVC.mk rfl ?_ | refine CallVC.pure (specCountPlays_spec w v (by omega) (by omega)) rfl ?_ | refine CallVC.pure (implCountPlays_spec w v (by omega) (by omega)) rfl ?_ | refine OpVC.more tt_ok ?_ | refine RestVC.ext tt_ok ?_)); all_goals (conv => whnf)
  all_goals first | exact RetVC.res rfl rfl | (exfalso; simp_all; done)
end Go.Proofs.YtnekgpjgekakkaaDoor.X
