/- FnExactCountAllPlays: the reference's half and the law. No condition beyond the statement's. -/
import Derived.Test.YtblihaicbhdbdaaDoorAllP
import Derived.Test.YtblihaicbhdbdaaDoorCounts
namespace Go.Proofs.YtblihaicbhdbdaaDoor.X
open Go.Proofs
set_option maxRecDepth 100000
set_option linter.unusedVariables false
set_option linter.unusedSimpArgs false
def apF (w : Tx) : Int := if lineOf w 10 then (allF w : Nat) else 0
theorem implCountAllPlays_spec (w : Tx) (hw : w.length ≤ 1048576) : Spec Tryd.prog 20 [.c (.str w)] [] (isRes [i64 (apF w), vb (lineOf w 10)] []) := by
  have h1 := isReachLine_spec w hw
  unfold apF
  refine Spec.of_wpx tt_ok Tryd.func20 (by kernel_rfl) rfl ?_
  cases hl : lineOf w 10 with
  | true =>
    rw [hl] at h1
    rw [if_pos rfl]
    have h2 := all1_spec (potF w + 1) w (Nat.lt_succ_self _) (few_ok hl).2 (few_ok hl).1 [] okAl_nil
    unfold alM at h2
    have h2 := Spec.renE [(1005, 4), (1006, 5), (1000, 9)] [(4, 1005), (5, 1006), (9, 1000)] h2 (fun _ => rfl) (fun _ => rfl) rfl
    generalize allF w = A at *
    (repeat' ((conv => whnf); first | refine CondVC.t ?_ | refine CondVC.f ?_ | refine CondVC.dec (fun h => ?_) (fun h => ?_) | refine CondVC.ndec (fun h => ?_) (fun h => ?_) | refine CondVC.mk (fun h => ?_) (fun h => ?_) | refine ArVC.i64 (by first | omega | (simp only; omega)) ?_ | refine SideVC.mk (by first | omega | decide | (simp only; omega) | (simp [slS]; done) | (simp [slS]; omega) | (simp only [byteE_len, mvE_len, strE_len, intE_len, esC_len, List.length_cons, List.length_nil, List.length_append, List.length_replicate, List.length_set, Int.toNat_natCast, and_true] at *; omega)) ?_ | refine LoopN.go ?_ | exact trivial | refine AltVC.mk ?_ ?_ | refine HeldVC.mk rfl ?_ | refine CallVC.pure h1 rfl ?_ | (refine CallVC.ex [4, 9, 5] rfl h2 ?_; intro es' hes'; refine ⟨rfl, ?_⟩) | refine OpVC.more tt_ok ?_ | refine RestVC.ext tt_ok ?_)); all_goals (conv => whnf)
    all_goals exact RetVC.res rfl rfl
  | false =>
    rw [hl] at h1
    rw [if_neg Bool.false_ne_true]
    (repeat' ((conv => whnf); first | refine CondVC.t ?_ | refine CondVC.f ?_ | refine CondVC.dec (fun h => ?_) (fun h => ?_) | refine CondVC.ndec (fun h => ?_) (fun h => ?_) | refine CondVC.mk (fun h => ?_) (fun h => ?_) | refine ArVC.i64 (by first | omega | (simp only; omega)) ?_ | refine SideVC.mk (by first | omega | decide | (simp only; omega) | (simp [slS]; done) | (simp [slS]; omega) | (simp only [byteE_len, mvE_len, strE_len, intE_len, esC_len, List.length_cons, List.length_nil, List.length_append, List.length_replicate, List.length_set, Int.toNat_natCast, and_true] at *; omega)) ?_ | refine LoopN.go ?_ | exact trivial | refine AltVC.mk ?_ ?_ | refine HeldVC.mk rfl ?_ | refine CallVC.pure h1 rfl ?_ | refine OpVC.more tt_ok ?_ | refine RestVC.ext tt_ok ?_)); all_goals (conv => whnf)
    all_goals exact RetVC.res rfl rfl
def preF (c : Tx → Nat) (l : List Tx) (i : Nat) : Nat := ((l.take i).map fun v => if stuckF v then c v else 0).sum
theorem preF_zero (c : Tx → Nat) (l : List Tx) : preF c l 0 = 0 := by simp [preF]
theorem preF_succ (c : Tx → Nat) (l : List Tx) {i : Nat} (h : i < l.length) : preF c l (i + 1) = preF c l i + (if stuckF l[i] then c l[i] else 0) := by
  unfold preF; rw [List.take_succ_eq_append_getElem h, List.map_append, List.sum_append]; simp
theorem preF_end (c : Tx → Nat) (l : List Tx) : preF c l l.length = (l.map fun v => if stuckF v then c v else 0).sum := by unfold preF; rw [List.take_length]
def shF (w : Tx) (k : Nat) : Nat := ((List.range k).map (shareF w)).sum
theorem shF_succ (w : Tx) (k : Nat) : shF w (k + 1) = shF w k + preF (numF w k) (layF w k) (layF w k).length := by
  unfold shF; rw [List.range_succ, List.map_append, List.sum_append, preF_end]; simp [shareF]
set_option maxHeartbeats 2000000 in
theorem specCountAllPlays_spec (w : Tx) (hw : w.length ≤ 1048576) : Spec Tryd.prog 19 [.c (.str w)] [] (isRes [i64 (apF w), vb (lineOf w 10)] []) := by
  have h1 := reFew_spec w hw
  unfold apF
  refine Spec.of_wpx tt_ok Tryd.func19 (by kernel_rfl) rfl ?_
  cases ha : lineOf w 10 with
  | false =>
    rw [ha] at h1
    rw [if_neg Bool.false_ne_true]
    (repeat' ((conv => whnf); first | refine CondVC.t ?_ | refine CondVC.f ?_ | refine CondVC.dec (fun h => ?_) (fun h => ?_) | refine CondVC.ndec (fun h => ?_) (fun h => ?_) | refine CondVC.mk (fun h => ?_) (fun h => ?_) | refine ArVC.i64 (by first | omega | (simp only; omega)) ?_ | refine SideVC.mk (by first | omega | decide | (simp only; omega) | (simp [slS]; done) | (simp [slS]; omega) | (simp only [byteE_len, mvE_len, strE_len, intE_len, esC_len, List.length_cons, List.length_nil, List.length_append, List.length_replicate, List.length_set, Int.toNat_natCast, and_true] at *; omega)) ?_ | refine LoopN.go ?_ | exact trivial | refine AltVC.mk ?_ ?_ | refine HeldVC.mk rfl ?_ | refine CallVC.pure h1 rfl ?_ | refine OpVC.more tt_ok ?_ | refine RestVC.ext tt_ok ?_)); all_goals (conv => whnf)
    all_goals exact RetVC.res rfl rfl
  | true =>
  rw [ha] at h1
  obtain ⟨hok, hlw⟩ := few_ok ha
  have hw14 : w.length ≤ 14 := by omega
  rw [if_pos rfl]
  have h3 := Spec.ren [(1001, 2001)] [(2001, 1001)] (reLayers_spec w hok hw14) rfl rfl rfl
  have hget : ∀ k, k < depthF w + 1 → (nestF w)[k]? = some (strE (layF w k)) := fun k hk => nestTo_get hk
  have hel : (nestF w).length = depthF w + 1 := nestTo_len w _
  have hD := depth_pot w
  have hpp := pot_small hw14
  have hfew := fun k => lay_few hok hw14 k
  have hstep : ∀ k, sumI (numF w k) (layF w k) (layF w k).length = numF w (k + 1) := fun k => funext (sumI_lay w k)
  have hlok : ∀ k, ∀ u ∈ layF w k, u.all okCh = true ∧ u.length ≤ 14 := fun k u hu => by
    obtain ⟨a, b, _⟩ := reach_ok hok (lay_mem.1 hu)
    exact ⟨a, by omega⟩
  have hc0 : [[C.int .i64 1]] = cntE (numF w 0) (layF w 0) := by
    show _ = cntE (numF w 0) [w]
    have : numF w 0 w = 1 := by simp [numF, endsF]
    unfold cntE; rw [List.map_cons, this]; rfl
  have hfin : IntKind.i64.wrap ((shF w (depthF w + 1) : Nat) : Int) = (allF w : Nat) := by
    unfold shF
    rw [shares_all]
    exact wrap_id (by have := allF_few hok hlw; omega)
  have hsh0 : shF w 0 = 0 := rfl
  have hshs := shF_succ w
  generalize allF w = A at *
  generalize shF w = sh at *
  generalize layF w = ly at *
  generalize nestF w = ne at *
  generalize depthF w = D at *
  generalize numF w = nf at *
  (repeat' ((conv => whnf); first | refine CondVC.t ?_ | refine CondVC.f ?_ | refine CondVC.dec (fun h => ?_) (fun h => ?_) | refine CondVC.ndec (fun h => ?_) (fun h => ?_) | refine CondVC.mk (fun h => ?_) (fun h => ?_) | refine ArVC.i64 (by first | omega | (simp only; omega)) ?_ | refine SideVC.mk (by first | omega | decide | (simp only; omega) | (simp [slS]; done) | (simp [slS]; omega) | (simp only [byteE_len, mvE_len, strE_len, intE_len, esC_len, List.length_cons, List.length_nil, List.length_append, List.length_replicate, List.length_set, Int.toNat_natCast, and_true] at *; omega)) ?_ | refine LoopN.go ?_ | exact trivial | refine AltVC.mk ?_ ?_ | refine HeldVC.mk rfl ?_ | refine CallVC.pure h1 rfl ?_ | refine CallVC.res [] rfl h3 rfl ?_ | refine OpVC.more tt_ok ?_ | refine RestVC.ext tt_ok ?_)); all_goals (conv => whnf)
  refine LoopVC.mk (G := Nat) (fun k => ⟨[(19, .v (i64 k)), (18, .v (i64 ne.length)), (17, .v (.c (.sl 2001))), (6, .v (i64 (IntKind.i64.wrap ((sh k : Nat) : Int)))), (5, .v (.c (.sl 3001))), (4, .v (.c (.sl 2001)))], [(2001, .ext (.nest 40 9 1 ne [])), (3001, .sl 3 1 (cntE (nf (k - 1)) (ly (k - 1))))]⟩)
    (fun k => k ≤ D + 1) (fun k => D + 1 - k) 0 (Nat.zero_le _) (Sub.mk [(3001, 16)] _ ⟨rfl, rfl, rfl, by rw [hsh0]; rfl, rfl, rfl, trivial⟩ (by rw [← hc0]; rfl) rfl) ?_
  intro k hk
  by_cases hkl : k < D + 1
  · have g0 : ne[(k : Int).toNat]? = some (strE (ly k)) := by rw [Int.toNat_natCast]; exact hget k hkl
    have hfk := hfew k
    have hlok' := hlok k
    have hpe := hshs k
    cases k with
    | zero =>
    generalize hly : ly 0 = l at *
    generalize hnf : nf 0 = c at *
    have hsl := strE_len l
    have hcl := cntE_len c l
    obtain ⟨P, hP⟩ : ∃ P, P = sh 0 := ⟨_, rfl⟩
    have hpre0 := preF_zero c l
    have hpre := fun i (h : i < l.length) => preF_succ c l h
    rw [← hP] at hpe ⊢
    replace hpe := hpe.symm
    generalize preF c l = pre at *
    (repeat' ((conv => whnf); first | refine CondVC.t ?_ | refine CondVC.f ?_ | refine CondVC.dec (fun h => ?_) (fun h => ?_) | refine CondVC.ndec (fun h => ?_) (fun h => ?_) | refine CondVC.mk (fun h => ?_) (fun h => ?_) | refine ArVC.i64 (by first | omega | (simp only; omega)) ?_ | refine SideVC.mk (by first | omega | decide | (simp only; omega) | (simp [slS]; done) | (simp [slS]; omega) | (simp only [byteE_len, mvE_len, strE_len, intE_len, esC_len, List.length_cons, List.length_nil, List.length_append, List.length_replicate, List.length_set, Int.toNat_natCast, and_true] at *; omega)) ?_ | refine LoopN.go ?_ | exact trivial | refine AltVC.mk ?_ ?_ | refine HeldVC.mk rfl ?_ | refine RestVC2.nestAddr tt_ok rfl rfl rfl rfl rfl (by rw [hel]; omega) ?_ | refine RestVC2.nestLoad tt_ok rfl rfl rfl rfl (by rw [hel]; omega) ?_ | refine RestVC2.insLen tt_ok rfl rfl rfl rfl g0 ?_ | refine OpVC.more tt_ok ?_ | refine RestVC.ext tt_ok ?_)); all_goals (conv => whnf)
    all_goals try (exfalso; omega)
    refine LoopVC.mk (G := Nat) (fun i => ⟨[(36, .v (i64 i)), (35, .v (i64 l.length)), (34, .v (.c (.ins 2001 (((0 : Nat) : Int)).toNat))), (6, .v (i64 (IntKind.i64.wrap ((P + pre i : Nat) : Int)))), (5, .v (.c (.sl 3001))), (4, .v (.c (.sl 2001))), (19, .v (i64 (((0 : Nat) : Int)))), (18, .v (i64 ne.length)), (17, .v (.c (.sl 2001)))], [(2001, .ext (.nest 40 9 1 ne [])), (3001, .sl 3 1 (cntE c l))]⟩)
      (fun i => i ≤ l.length) (fun i => l.length - i) 0 (Nat.zero_le _) (Sub.mk [(3001, 3001)] _ ⟨rfl, by rw [hsl]; rfl, rfl, by rw [hpre0, Nat.add_zero]; rfl, rfl, rfl, rfl, rfl, rfl, trivial⟩ rfl rfl) ?_
    intro i hi
    by_cases hil : i < l.length
    · have gi : (strE l)[(i : Int).toNat]? = some [.str l[i]] := by rw [Int.toNat_natCast]; exact strE_get hil
      have gc : (cntE c l)[(i : Int).toNat]? = some (wn (c l[i])) := by rw [Int.toNat_natCast]; exact cntE_get hil
      have hmem := hlok' l[i] (List.getElem_mem hil)
      have hmv := Spec.ren [(1001, 7001)] [(7001, 1001)] (liMoves_spec l[i] true true hmem.1 (by omega)) rfl rfl rfl
      rw [liMoves_eq hmem.1, show kindsF true true = both from rfl] at hmv
      have hps := hpre i hil
      have hmvl := movesF_len l[i] both
      have hst : stuckF l[i] = decide ((movesF l[i] both).length = 0) := by
        unfold stuckF
        cases movesF l[i] both <;> simp
      rw [hst] at hps
      generalize movesF l[i] both = mv at *
      have hml := mvE_len mv
      by_cases h0 : mv.length = 0
      · rw [decide_eq_true h0, if_pos rfl] at hps
        have hw := wrap_add ((P + pre i : Nat) : Int) ((c l[i] : Nat) : Int)
        have hw2 : IntKind.i64.wrap (IntKind.i64.wrap ((P + pre i : Nat) : Int) + IntKind.i64.wrap ((c l[i] : Nat) : Int)) = IntKind.i64.wrap ((P + pre (i + 1) : Nat) : Int) := by
          rw [hw, hps]
          congr 1
          simp only [Int.natCast_add]; omega
        unfold wn at gc
        generalize hwa : IntKind.i64.wrap ((P + pre i : Nat) : Int) = wa at *
        generalize hwb : IntKind.i64.wrap ((c l[i] : Nat) : Int) = wb at *
        generalize l[i] = vv at *
        (repeat' ((conv => whnf); first | refine CondVC.t ?_ | refine CondVC.f ?_ | refine CondVC.dec (fun h => ?_) (fun h => ?_) | refine CondVC.ndec (fun h => ?_) (fun h => ?_) | refine CondVC.mk (fun h => ?_) (fun h => ?_) | refine ArVC.i64 (by first | omega | (simp only; omega)) ?_ | refine SideVC.mk (by first | omega | decide | (simp only; omega) | (simp [slS]; done) | (simp [slS]; omega) | (simp only [byteE_len, mvE_len, strE_len, intE_len, esC_len, List.length_cons, List.length_nil, List.length_append, List.length_replicate, List.length_set, Int.toNat_natCast, and_true] at *; omega)) ?_ | refine LoopN.go ?_ | exact trivial | refine AltVC.mk ?_ ?_ | refine HeldVC.mk rfl ?_ | refine RestVC2.insAddr tt_ok rfl rfl rfl rfl rfl g0 (by rw [hsl]; omega) ?_ | refine RestVC2.insLoad tt_ok rfl rfl rfl g0 gi rfl ?_ | refine CallVC.res [] rfl hmv rfl ?_ | refine LoadVC.mk _ gc ?_ | refine ArVC.wrap ?_ | refine SideVC.mk (by simp only [hcl]; omega) ?_ | refine OpVC.more tt_ok ?_ | refine RestVC.ext tt_ok ?_)); all_goals (conv => whnf)
        all_goals first
          | (exfalso; omega)
          | exact ⟨i + 1, hil, by omega, Sub.mk [] _ ⟨rfl, rfl, rfl, congrArg (fun z => some (E.v (i64 z))) hw2, rfl, rfl, rfl, rfl, rfl, trivial⟩ rfl rfl⟩
          | (exfalso; simp_all; done)
      · rw [decide_eq_false h0, if_neg Bool.false_ne_true, Nat.add_zero] at hps
        generalize l[i] = vv at *
        (repeat' ((conv => whnf); first | refine CondVC.t ?_ | refine CondVC.f ?_ | refine CondVC.dec (fun h => ?_) (fun h => ?_) | refine CondVC.ndec (fun h => ?_) (fun h => ?_) | refine CondVC.mk (fun h => ?_) (fun h => ?_) | refine ArVC.i64 (by first | omega | (simp only; omega)) ?_ | refine SideVC.mk (by first | omega | decide | (simp only; omega) | (simp [slS]; done) | (simp [slS]; omega) | (simp only [byteE_len, mvE_len, strE_len, intE_len, esC_len, List.length_cons, List.length_nil, List.length_append, List.length_replicate, List.length_set, Int.toNat_natCast, and_true] at *; omega)) ?_ | refine LoopN.go ?_ | exact trivial | refine AltVC.mk ?_ ?_ | refine HeldVC.mk rfl ?_ | refine RestVC2.insAddr tt_ok rfl rfl rfl rfl rfl g0 (by rw [hsl]; omega) ?_ | refine RestVC2.insLoad tt_ok rfl rfl rfl g0 gi rfl ?_ | refine CallVC.res [] rfl hmv rfl ?_ | refine OpVC.more tt_ok ?_ | refine RestVC.ext tt_ok ?_)); all_goals (conv => whnf)
        all_goals first
          | (exfalso; omega)
          | exact ⟨i + 1, hil, by omega, Sub.mk [] _ ⟨rfl, rfl, rfl, by rw [hps]; rfl, rfl, rfl, rfl, rfl, rfl, trivial⟩ rfl rfl⟩
          | (exfalso; simp_all; done)
    · have ei : i = l.length := by omega
      have hS : P + pre i = sh (0 + 1) := by rw [ei]; exact hpe
      (repeat' ((conv => whnf); first | refine CondVC.t ?_ | refine CondVC.f ?_ | refine CondVC.dec (fun h => ?_) (fun h => ?_) | refine CondVC.ndec (fun h => ?_) (fun h => ?_) | refine CondVC.mk (fun h => ?_) (fun h => ?_) | refine ArVC.i64 (by first | omega | (simp only; omega)) ?_ | refine SideVC.mk (by first | omega | decide | (simp only; omega) | (simp [slS]; done) | (simp [slS]; omega) | (simp only [byteE_len, mvE_len, strE_len, intE_len, esC_len, List.length_cons, List.length_nil, List.length_append, List.length_replicate, List.length_set, Int.toNat_natCast, and_true] at *; omega)) ?_ | refine LoopN.go ?_ | exact trivial | refine AltVC.mk ?_ ?_ | refine HeldVC.mk rfl ?_ | refine OpVC.more tt_ok ?_ | refine RestVC.ext tt_ok ?_)); all_goals (conv => whnf)
      all_goals first
        | (exfalso; omega)
        | exact ⟨0 + 1, by omega, by omega, Sub.mk [] _ ⟨rfl, rfl, rfl, by rw [hS]; rfl, rfl, rfl, trivial⟩ (by simp only [Nat.add_sub_cancel, hly, hnf]; rfl) rfl⟩
    | succ k =>
    have g1 : ne[(((k + 1 : Nat) : Int) - 1).toNat]? = some (strE (ly k)) := by
      rw [show (((k + 1 : Nat) : Int) - 1).toNat = k by omega]; exact hget k (by omega)
    have hh2 : holeAt [((((k + 1 : Nat) : Int) - 1).toNat, 9001)] ((k + 1 : Nat) : Int).toNat = none := by
      unfold holeAt
      rw [if_neg (by omega)]; rfl
    have hrc := Spec.ren [(1000, 9001), (1001, 3001), (1002, 9002), (1003, 3003)] [(9001, 1000), (3001, 1001), (9002, 1002), (3003, 1003)] (reCounts_spec (ly k) (ly (k + 1)) (nf k) (hfew k) hfk (hlok k)) rfl rfl rfl
    rw [hstep k] at hrc
    simp only [Nat.add_sub_cancel]
    generalize hly : ly (k + 1) = l at *
    generalize hnf : nf (k + 1) = c at *
    generalize ly k = l0 at *
    generalize nf k = c0 at *
    have hsl := strE_len l
    have hcl := cntE_len c l
    obtain ⟨P, hP⟩ : ∃ P, P = sh (k + 1) := ⟨_, rfl⟩
    have hpre0 := preF_zero c l
    have hpre := fun i (h : i < l.length) => preF_succ c l h
    rw [← hP] at hpe ⊢
    replace hpe := hpe.symm
    generalize preF c l = pre at *
    (repeat' ((conv => whnf); first | refine CondVC.t ?_ | refine CondVC.f ?_ | refine CondVC.dec (fun h => ?_) (fun h => ?_) | refine CondVC.ndec (fun h => ?_) (fun h => ?_) | refine CondVC.mk (fun h => ?_) (fun h => ?_) | refine ArVC.i64 (by first | omega | (simp only; omega)) ?_ | refine SideVC.mk (by first | omega | decide | (simp only; omega) | (simp [slS]; done) | (simp [slS]; omega) | (simp only [byteE_len, mvE_len, strE_len, intE_len, esC_len, List.length_cons, List.length_nil, List.length_append, List.length_replicate, List.length_set, Int.toNat_natCast, and_true] at *; omega)) ?_ | refine LoopN.go ?_ | exact trivial | refine AltVC.mk ?_ ?_ | refine HeldVC.mk rfl ?_ | refine RestVC2.nestAddr tt_ok rfl rfl rfl rfl rfl (by rw [hel]; omega) ?_ | refine RestVC2.nestLoad tt_ok rfl rfl rfl rfl (by rw [hel]; omega) ?_ | refine RestVC2.insLen tt_ok rfl rfl rfl rfl g0 ?_ | (refine CallVC.inner 9001 2001 (((k + 1 : Nat) : Int) - 1).toNat [.c (.sl 9001), .c (.sl 3001), .c (.ins 2001 ((k + 1 : Nat) : Int).toNat)] rfl rfl g1 rfl rfl ?_; refine CallVC.inner 9002 2001 ((k + 1 : Nat) : Int).toNat [.c (.sl 9001), .c (.sl 3001), .c (.sl 9002)] rfl rfl g0 hh2 rfl ?_; refine CallVC.res [9001, 3001, 9002] rfl hrc rfl ?_; refine BackVC.same rfl rfl g0 hh2 rfl ?_; refine BackVC.same rfl rfl g1 rfl rfl ?_) | refine OpVC.more tt_ok ?_ | refine RestVC.ext tt_ok ?_)); all_goals (conv => whnf)
    all_goals try (exfalso; omega)
    refine LoopVC.mk (G := Nat) (fun i => ⟨[(36, .v (i64 i)), (35, .v (i64 l.length)), (34, .v (.c (.ins 2001 (((k + 1 : Nat) : Int)).toNat))), (6, .v (i64 (IntKind.i64.wrap ((P + pre i : Nat) : Int)))), (5, .v (.c (.sl 3001))), (4, .v (.c (.sl 2001))), (19, .v (i64 (((k + 1 : Nat) : Int)))), (18, .v (i64 ne.length)), (17, .v (.c (.sl 2001)))], [(2001, .ext (.nest 40 9 1 ne [])), (3001, .sl 3 1 (cntE c l))]⟩)
      (fun i => i ≤ l.length) (fun i => l.length - i) 0 (Nat.zero_le _) (Sub.mk [(3001, 3003)] _ ⟨rfl, by rw [hsl]; rfl, rfl, by rw [hpre0, Nat.add_zero]; rfl, rfl, rfl, rfl, rfl, rfl, trivial⟩ rfl rfl) ?_
    intro i hi
    by_cases hil : i < l.length
    · have gi : (strE l)[(i : Int).toNat]? = some [.str l[i]] := by rw [Int.toNat_natCast]; exact strE_get hil
      have gc : (cntE c l)[(i : Int).toNat]? = some (wn (c l[i])) := by rw [Int.toNat_natCast]; exact cntE_get hil
      have hmem := hlok' l[i] (List.getElem_mem hil)
      have hmv := Spec.ren [(1001, 7001)] [(7001, 1001)] (liMoves_spec l[i] true true hmem.1 (by omega)) rfl rfl rfl
      rw [liMoves_eq hmem.1, show kindsF true true = both from rfl] at hmv
      have hps := hpre i hil
      have hmvl := movesF_len l[i] both
      have hst : stuckF l[i] = decide ((movesF l[i] both).length = 0) := by
        unfold stuckF
        cases movesF l[i] both <;> simp
      rw [hst] at hps
      generalize movesF l[i] both = mv at *
      have hml := mvE_len mv
      by_cases h0 : mv.length = 0
      · rw [decide_eq_true h0, if_pos rfl] at hps
        have hw := wrap_add ((P + pre i : Nat) : Int) ((c l[i] : Nat) : Int)
        have hw2 : IntKind.i64.wrap (IntKind.i64.wrap ((P + pre i : Nat) : Int) + IntKind.i64.wrap ((c l[i] : Nat) : Int)) = IntKind.i64.wrap ((P + pre (i + 1) : Nat) : Int) := by
          rw [hw, hps]
          congr 1
          simp only [Int.natCast_add]; omega
        unfold wn at gc
        generalize hwa : IntKind.i64.wrap ((P + pre i : Nat) : Int) = wa at *
        generalize hwb : IntKind.i64.wrap ((c l[i] : Nat) : Int) = wb at *
        generalize l[i] = vv at *
        (repeat' ((conv => whnf); first | refine CondVC.t ?_ | refine CondVC.f ?_ | refine CondVC.dec (fun h => ?_) (fun h => ?_) | refine CondVC.ndec (fun h => ?_) (fun h => ?_) | refine CondVC.mk (fun h => ?_) (fun h => ?_) | refine ArVC.i64 (by first | omega | (simp only; omega)) ?_ | refine SideVC.mk (by first | omega | decide | (simp only; omega) | (simp [slS]; done) | (simp [slS]; omega) | (simp only [byteE_len, mvE_len, strE_len, intE_len, esC_len, List.length_cons, List.length_nil, List.length_append, List.length_replicate, List.length_set, Int.toNat_natCast, and_true] at *; omega)) ?_ | refine LoopN.go ?_ | exact trivial | refine AltVC.mk ?_ ?_ | refine HeldVC.mk rfl ?_ | refine RestVC2.insAddr tt_ok rfl rfl rfl rfl rfl g0 (by rw [hsl]; omega) ?_ | refine RestVC2.insLoad tt_ok rfl rfl rfl g0 gi rfl ?_ | refine CallVC.res [] rfl hmv rfl ?_ | refine LoadVC.mk _ gc ?_ | refine ArVC.wrap ?_ | refine SideVC.mk (by simp only [hcl]; omega) ?_ | refine OpVC.more tt_ok ?_ | refine RestVC.ext tt_ok ?_)); all_goals (conv => whnf)
        all_goals first
          | (exfalso; omega)
          | exact ⟨i + 1, hil, by omega, Sub.mk [] _ ⟨rfl, rfl, rfl, congrArg (fun z => some (E.v (i64 z))) hw2, rfl, rfl, rfl, rfl, rfl, trivial⟩ rfl rfl⟩
          | (exfalso; simp_all; done)
      · rw [decide_eq_false h0, if_neg Bool.false_ne_true, Nat.add_zero] at hps
        generalize l[i] = vv at *
        (repeat' ((conv => whnf); first | refine CondVC.t ?_ | refine CondVC.f ?_ | refine CondVC.dec (fun h => ?_) (fun h => ?_) | refine CondVC.ndec (fun h => ?_) (fun h => ?_) | refine CondVC.mk (fun h => ?_) (fun h => ?_) | refine ArVC.i64 (by first | omega | (simp only; omega)) ?_ | refine SideVC.mk (by first | omega | decide | (simp only; omega) | (simp [slS]; done) | (simp [slS]; omega) | (simp only [byteE_len, mvE_len, strE_len, intE_len, esC_len, List.length_cons, List.length_nil, List.length_append, List.length_replicate, List.length_set, Int.toNat_natCast, and_true] at *; omega)) ?_ | refine LoopN.go ?_ | exact trivial | refine AltVC.mk ?_ ?_ | refine HeldVC.mk rfl ?_ | refine RestVC2.insAddr tt_ok rfl rfl rfl rfl rfl g0 (by rw [hsl]; omega) ?_ | refine RestVC2.insLoad tt_ok rfl rfl rfl g0 gi rfl ?_ | refine CallVC.res [] rfl hmv rfl ?_ | refine OpVC.more tt_ok ?_ | refine RestVC.ext tt_ok ?_)); all_goals (conv => whnf)
        all_goals first
          | (exfalso; omega)
          | exact ⟨i + 1, hil, by omega, Sub.mk [] _ ⟨rfl, rfl, rfl, by rw [hps]; rfl, rfl, rfl, rfl, rfl, rfl, trivial⟩ rfl rfl⟩
          | (exfalso; simp_all; done)
    · have ei : i = l.length := by omega
      have hS : P + pre i = sh ((k + 1) + 1) := by rw [ei]; exact hpe
      (repeat' ((conv => whnf); first | refine CondVC.t ?_ | refine CondVC.f ?_ | refine CondVC.dec (fun h => ?_) (fun h => ?_) | refine CondVC.ndec (fun h => ?_) (fun h => ?_) | refine CondVC.mk (fun h => ?_) (fun h => ?_) | refine ArVC.i64 (by first | omega | (simp only; omega)) ?_ | refine SideVC.mk (by first | omega | decide | (simp only; omega) | (simp [slS]; done) | (simp [slS]; omega) | (simp only [byteE_len, mvE_len, strE_len, intE_len, esC_len, List.length_cons, List.length_nil, List.length_append, List.length_replicate, List.length_set, Int.toNat_natCast, and_true] at *; omega)) ?_ | refine LoopN.go ?_ | exact trivial | refine AltVC.mk ?_ ?_ | refine HeldVC.mk rfl ?_ | refine OpVC.more tt_ok ?_ | refine RestVC.ext tt_ok ?_)); all_goals (conv => whnf)
      all_goals first
        | (exfalso; omega)
        | exact ⟨(k + 1) + 1, by omega, by omega, Sub.mk [] _ ⟨rfl, rfl, rfl, by rw [hS]; rfl, rfl, rfl, trivial⟩ (by simp only [Nat.add_sub_cancel, hly, hnf]; rfl) rfl⟩
  · have ek : k = D + 1 := by omega
    rw [← hfin, ← ek]
    (repeat' ((conv => whnf); first | refine CondVC.t ?_ | refine CondVC.f ?_ | refine CondVC.dec (fun h => ?_) (fun h => ?_) | refine CondVC.ndec (fun h => ?_) (fun h => ?_) | refine CondVC.mk (fun h => ?_) (fun h => ?_) | refine ArVC.i64 (by first | omega | (simp only; omega)) ?_ | refine SideVC.mk (by first | omega | decide | (simp only; omega) | (simp [slS]; done) | (simp [slS]; omega) | (simp only [byteE_len, mvE_len, strE_len, intE_len, esC_len, List.length_cons, List.length_nil, List.length_append, List.length_replicate, List.length_set, Int.toNat_natCast, and_true] at *; omega)) ?_ | refine LoopN.go ?_ | exact trivial | refine AltVC.mk ?_ ?_ | refine HeldVC.mk rfl ?_ | refine OpVC.more tt_ok ?_ | refine RestVC.ext tt_ok ?_)); all_goals (conv => whnf)
    all_goals first
      | (exfalso; omega)
      | exact RetVC.res rfl rfl
theorem lawCountAllPlays_spec (w : Tx) (hw : w.length ≤ 9223372036854775807) : Spec Tryd.prog 6 [.c (.str w)] [] (isRes [vb true] []) := by
  refine Spec.of_wpx tt_ok Tryd.func6 (by kernel_rfl) rfl ?_
  by_cases hb : w.length ≤ 1048576
  · have h1 := specCountAllPlays_spec w hb
    have h2 := implCountAllPlays_spec w hb
    generalize apF w = a at *
    generalize lineOf w 10 = q at *
    (repeat' ((conv => whnf); first | refine CondVC.t ?_ | refine CondVC.f ?_ | refine CondVC.dec (fun h => ?_) (fun h => ?_) | refine CondVC.ndec (fun h => ?_) (fun h => ?_) | refine CondVC.mk (fun h => ?_) (fun h => ?_) | refine ArVC.i64 (by first | omega | (simp only; omega)) ?_ | refine SideVC.mk (by first | omega | decide | (simp only; omega) | (simp [slS]; done) | (simp [slS]; omega) | (simp only [byteE_len, mvE_len, strE_len, intE_len, esC_len, List.length_cons, List.length_nil, List.length_append, List.length_replicate, List.length_set, Int.toNat_natCast, and_true] at *; omega)) ?_ | refine LoopN.go ?_ | exact trivial | refine AltVC.mk ?_ ?_ | refine HeldVC.mk rfl ?_ | refine CallVC.pure h1 rfl ?_ | refine CallVC.pure h2 rfl ?_ | refine OpVC.more tt_ok ?_ | refine RestVC.ext tt_ok ?_)); all_goals (conv => whnf)
    all_goals first | exact RetVC.res rfl rfl | (exfalso; omega) | (exfalso; simp_all; done)
  · (repeat' ((conv => whnf); first | refine CondVC.t ?_ | refine CondVC.f ?_ | refine CondVC.dec (fun h => ?_) (fun h => ?_) | refine CondVC.ndec (fun h => ?_) (fun h => ?_) | refine CondVC.mk (fun h => ?_) (fun h => ?_) | refine ArVC.i64 (by first | omega | (simp only; omega)) ?_ | refine SideVC.mk (by first | omega | decide | (simp only; omega) | (simp [slS]; done) | (simp [slS]; omega) | (simp only [byteE_len, mvE_len, strE_len, intE_len, esC_len, List.length_cons, List.length_nil, List.length_append, List.length_replicate, List.length_set, Int.toNat_natCast, and_true] at *; omega)) ?_ | refine LoopN.go ?_ | exact trivial | refine AltVC.mk ?_ ?_ | refine HeldVC.mk rfl ?_ | refine OpVC.more tt_ok ?_ | refine RestVC.ext tt_ok ?_)); all_goals (conv => whnf)
    all_goals first | exact RetVC.res rfl rfl | (exfalso; omega)
end Go.Proofs.YtblihaicbhdbdaaDoor.X
