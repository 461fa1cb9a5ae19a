/- Lines that are reached, layer by layer: the reference's. No condition beyond each statement's. -/
import Derived.Test.YtblihaicbhdbdaaDoorReachF
import Derived.Test.YtblihaicbhdbdaaDoorNestO
import Derived.Test.YtblihaicbhdbdaaDoorWord
namespace Go.Proofs.YtblihaicbhdbdaaDoor.X
open Go.Proofs
set_option maxRecDepth 100000
set_option linter.unusedVariables false
set_option linter.unusedSimpArgs false

theorem half_nat (a b : Nat) (h : a + b ≤ 9223372036854775807) : IntKind.i64.wrap (((a : Int) + (b : Int)).tdiv 2) = (((a + b) / 2 : Nat) : Int) := by
  have e : ((a : Int) + (b : Int)).tdiv 2 = (((a + b) / 2 : Nat) : Int) := by
    rw [Int.tdiv_eq_ediv_of_nonneg (by omega)]; omega
  rw [e]; exact wrap_id (by omega)
theorem strE_take (l : List Tx) (k : Nat) : strE (l.take k) = (strE l).take k := by unfold strE; rw [List.map_take]
theorem strE_drop (l : List Tx) (k : Nat) : strE (l.drop k) = (strE l).drop k := by unfold strE; rw [List.map_drop]
theorem reAdd_spec (l : List Tx) (w : Tx) (hs : sortedT l) (hl : l.length ≤ 4398046511104) : Spec Tryd.prog 53 [.c (.sl 1000), .c (.str w)] [(1000, .sl 9 1 (strE l))]
    (isRes [.c (.sl 1001)] [(1001, .sl 9 1 (strE (addF l w)))]) := by
  have hml := strE_len l
  refine Spec.of_wpx tt_ok Tryd.func53 (by kernel_rfl) rfl ?_
  (repeat' ((conv => whnf); first | refine CondVC.t ?_ | refine CondVC.f ?_ | refine CondVC.dec (fun h => ?_) (fun h => ?_) | refine CondVC.ndec (fun h => ?_) (fun h => ?_) | refine CondVC.mk (fun h => ?_) (fun h => ?_) | refine ArVC.i64 (by first | omega | (simp only; omega)) ?_ | refine SideVC.mk (by first | omega | decide | (simp only; omega) | (simp [slS]; done) | (simp [slS]; omega) | (simp only [byteE_len, mvE_len, strE_len, intE_len, esC_len, List.length_cons, List.length_nil, List.length_append, List.length_replicate, List.length_set, Int.toNat_natCast, and_true] at *; omega)) ?_ | refine LoopN.go ?_ | exact trivial | refine AltVC.mk ?_ ?_ | refine HeldVC.mk rfl ?_ | refine OpVC.more tt_ok ?_ | refine RestVC.ext tt_ok ?_)); all_goals (conv => whnf)
  refine LoopVC.mk (G := Nat × Nat) (fun γ => ⟨[(5, .v (i64 γ.1)), (6, .v (i64 γ.2)), (1, .v (.c (.str w))), (0, .v (.c (.sl 1000)))], [(1000, .sl 9 1 (strE l))]⟩)
    (fun γ => (γ.1 ≤ γ.2 ∧ γ.2 ≤ l.length) ∧ (∀ j (hj : j < l.length), j < γ.1 → ltT l[j] w = true) ∧ ∀ j (hj : j < l.length), γ.2 ≤ j → ltT l[j] w = false) (fun γ => γ.2 - γ.1) (0, l.length)
    ⟨⟨Nat.zero_le _, Nat.le_refl _⟩, fun j hj h => absurd h (Nat.not_lt_zero _), fun j hj h => absurd hj (by simp only at h; omega)⟩ (Sub.mk [] _ ⟨rfl, by rw [hml]; rfl, rfl, rfl, trivial⟩ rfl rfl) ?_
  rintro ⟨lo, hi⟩ ⟨⟨h1, h2⟩, h3, h4⟩
  simp only at h1 h2 h3 h4
  by_cases hlt : lo < hi
  · have hmid := half_nat lo hi (by omega)
    have hm1 : (lo + hi) / 2 < l.length := by omega
    have g1 : (strE l)[(IntKind.i64.wrap (((lo : Int) + (hi : Int)).tdiv 2)).toNat]? = some [.str l[(lo + hi) / 2]] := by rw [hmid, Int.toNat_natCast]; exact strE_get hm1
    cases hb : ltT l[(lo + hi) / 2] w with
    | true =>
      have hb' : Op.bytesLess l[(lo + hi) / 2] w = true := hb
      (repeat' ((conv => whnf); first | refine CondVC.t ?_ | refine CondVC.f ?_ | refine CondVC.dec (fun h => ?_) (fun h => ?_) | refine CondVC.ndec (fun h => ?_) (fun h => ?_) | refine CondVC.mk (fun h => ?_) (fun h => ?_) | refine ArVC.i64 (by first | omega | (simp only; omega)) ?_ | refine SideVC.mk (by first | omega | decide | (simp only; omega) | (simp [slS]; done) | (simp [slS]; omega) | (simp only [byteE_len, mvE_len, strE_len, intE_len, esC_len, List.length_cons, List.length_nil, List.length_append, List.length_replicate, List.length_set, Int.toNat_natCast, and_true] at *; omega)) ?_ | refine LoopN.go ?_ | exact trivial | refine AltVC.mk ?_ ?_ | refine HeldVC.mk rfl ?_ | refine SideVC.mk (by decide) ?_ | refine LoadVC.mk _ g1 ?_ | refine SideVC.mk (by rw [hml, hmid]; omega) ?_ | refine ArVC.i64 (by rw [hmid]; omega) ?_ | refine OpVC.more tt_ok ?_ | refine RestVC.ext tt_ok ?_)); all_goals (conv => whnf)
      all_goals first
        | (exfalso; omega)
        | (exfalso; simp_all; done)
        | exact ⟨((lo + hi) / 2 + 1, hi), ⟨⟨by simp only; omega, h2⟩, fun j hj hk => by
            by_cases e : j = (lo + hi) / 2
            · subst e; exact hb
            · exact ltT_trans (sortedT_at hs hm1 (by simp only at hk; omega)) hb, h4⟩, by simp only; omega, Sub.mk [] _ ⟨by rw [hmid]; exact congrArg (fun z => some (E.v (i64 z))) (show (((lo + hi) / 2 : Nat) : Int) + 1 = (((lo + hi) / 2 + 1 : Nat) : Int) by omega), rfl, rfl, rfl, trivial⟩ rfl rfl⟩
    | false =>
      have hb' : Op.bytesLess l[(lo + hi) / 2] w = false := hb
      (repeat' ((conv => whnf); first | refine CondVC.t ?_ | refine CondVC.f ?_ | refine CondVC.dec (fun h => ?_) (fun h => ?_) | refine CondVC.ndec (fun h => ?_) (fun h => ?_) | refine CondVC.mk (fun h => ?_) (fun h => ?_) | refine ArVC.i64 (by first | omega | (simp only; omega)) ?_ | refine SideVC.mk (by first | omega | decide | (simp only; omega) | (simp [slS]; done) | (simp [slS]; omega) | (simp only [byteE_len, mvE_len, strE_len, intE_len, esC_len, List.length_cons, List.length_nil, List.length_append, List.length_replicate, List.length_set, Int.toNat_natCast, and_true] at *; omega)) ?_ | refine LoopN.go ?_ | exact trivial | refine AltVC.mk ?_ ?_ | refine HeldVC.mk rfl ?_ | refine SideVC.mk (by decide) ?_ | refine LoadVC.mk _ g1 ?_ | refine SideVC.mk (by rw [hml, hmid]; omega) ?_ | refine OpVC.more tt_ok ?_ | refine RestVC.ext tt_ok ?_)); all_goals (conv => whnf)
      all_goals first
        | (exfalso; omega)
        | (exfalso; simp_all; done)
        | exact ⟨(lo, (lo + hi) / 2), ⟨⟨by simp only; omega, by simp only; omega⟩, h3, fun j hj hk => by
            by_cases e : j = (lo + hi) / 2
            · subst e; exact hb
            · cases hc : ltT l[j] w with
              | false => rfl
              | true =>
                have := ltT_trans (sortedT_at hs hj (show (lo + hi) / 2 < j by simp only at hk; omega)) hc
                rw [hb] at this; cases this⟩, by simp only; omega, Sub.mk [] _ ⟨rfl, by rw [hmid]; rfl, rfl, rfl, trivial⟩ rfl rfl⟩
  · have e : lo = hi := by omega
    subst e
    have hat := addF_at hs (⟨h2, h3, h4⟩ : isPlace l w lo)
    have hput : [] ++ ((strE l).drop 0).take lo ++ [[C.str w]] ++ ((strE l).drop lo).take (l.length - lo) = strE (putF l lo w) := by
      unfold putF
      rw [strE_append, strE_append, strE_take, strE_drop, List.drop_zero, List.nil_append, List.take_of_length_le (l := (strE l).drop lo) (by rw [List.length_drop, hml]; omega)]
      rfl
    have ht0 : ((strE l).take lo).length = lo := by rw [List.length_take, hml]; omega
    by_cases hlen : lo < l.length
    · have g1 : (strE l)[((lo : Nat) : Int).toNat]? = some [.str l[lo]] := by rw [Int.toNat_natCast]; exact strE_get hlen
      by_cases he : l[lo] = w
      · rw [hat, if_pos ⟨hlen, he⟩]
        (repeat' ((conv => whnf); first | refine CondVC.t ?_ | refine CondVC.f ?_ | refine CondVC.dec (fun h => ?_) (fun h => ?_) | refine CondVC.ndec (fun h => ?_) (fun h => ?_) | refine CondVC.mk (fun h => ?_) (fun h => ?_) | refine ArVC.i64 (by first | omega | (simp only; omega)) ?_ | refine SideVC.mk (by first | omega | decide | (simp only; omega) | (simp [slS]; done) | (simp [slS]; omega) | (simp only [byteE_len, mvE_len, strE_len, intE_len, esC_len, List.length_cons, List.length_nil, List.length_append, List.length_replicate, List.length_set, Int.toNat_natCast, and_true] at *; omega)) ?_ | refine LoopN.go ?_ | exact trivial | refine AltVC.mk ?_ ?_ | refine HeldVC.mk rfl ?_ | refine LoadVC.mk _ g1 ?_ | refine SideVC.mk (by rw [hml]; omega) ?_ | refine OpVC.more tt_ok ?_ | refine RestVC.ext tt_ok ?_)); all_goals (conv => whnf)
        all_goals first
          | (exfalso; omega)
          | (exfalso; simp_all; done)
          | exact RetVC.ren [(1001, 1000)] [.c (.sl 1001)] [(1001, .sl 9 1 (strE l))] rfl rfl rfl ⟨rfl, rfl⟩
      · rw [hat, if_neg fun ⟨_, h⟩ => he h]
        (repeat' ((conv => whnf); first | refine CondVC.t ?_ | refine CondVC.f ?_ | refine CondVC.dec (fun h => ?_) (fun h => ?_) | refine CondVC.ndec (fun h => ?_) (fun h => ?_) | refine CondVC.mk (fun h => ?_) (fun h => ?_) | refine ArVC.i64 (by first | omega | (simp only; omega)) ?_ | refine SideVC.mk (by first | omega | decide | (simp only; omega) | (simp [slS]; done) | (simp [slS]; omega) | (simp only [byteE_len, mvE_len, strE_len, intE_len, esC_len, List.length_cons, List.length_nil, List.length_append, List.length_replicate, List.length_set, Int.toNat_natCast, and_true] at *; omega)) ?_ | refine LoopN.go ?_ | exact trivial | refine AltVC.mk ?_ ?_ | refine HeldVC.mk rfl ?_ | refine LoadVC.mk _ g1 ?_ | refine SideVC.mk (by rw [hml]; omega) ?_ | refine SideVC.mk (by simp only [List.length_append, List.length_take, List.length_drop, List.length_cons, List.length_nil, hml, Int.toNat_natCast] at *; omega) ?_ | refine OpVC.more tt_ok ?_ | refine RestVC.ext tt_ok ?_)); all_goals (conv => whnf)
        all_goals first
          | (exfalso; omega)
          | (exfalso; simp_all; done)
          | exact RetVC.ren [(1001, 52)] [.c (.sl 1001)] [(1001, .sl 9 1 ([] ++ ((strE l).drop 0).take lo ++ [[C.str w]] ++ ((strE l).drop lo).take ((strE l).length - lo)))] rfl rfl rfl ⟨rfl, by rw [hml, hput]⟩
    · rw [hat, if_neg fun ⟨h, _⟩ => hlen h]
      (repeat' ((conv => whnf); first | refine CondVC.t ?_ | refine CondVC.f ?_ | refine CondVC.dec (fun h => ?_) (fun h => ?_) | refine CondVC.ndec (fun h => ?_) (fun h => ?_) | refine CondVC.mk (fun h => ?_) (fun h => ?_) | refine ArVC.i64 (by first | omega | (simp only; omega)) ?_ | refine SideVC.mk (by first | omega | decide | (simp only; omega) | (simp [slS]; done) | (simp [slS]; omega) | (simp only [byteE_len, mvE_len, strE_len, intE_len, esC_len, List.length_cons, List.length_nil, List.length_append, List.length_replicate, List.length_set, Int.toNat_natCast, and_true] at *; omega)) ?_ | refine LoopN.go ?_ | exact trivial | refine AltVC.mk ?_ ?_ | refine HeldVC.mk rfl ?_ | refine SideVC.mk (by rw [hml]; omega) ?_ | refine SideVC.mk (by simp only [List.length_append, List.length_take, List.length_drop, List.length_cons, List.length_nil, hml, Int.toNat_natCast] at *; omega) ?_ | refine OpVC.more tt_ok ?_ | refine RestVC.ext tt_ok ?_)); all_goals (conv => whnf)
      all_goals first
        | (exfalso; omega)
        | (exfalso; simp_all; done)
        | exact RetVC.ren [(1001, 52)] [.c (.sl 1001)] [(1001, .sl 9 1 ([] ++ ((strE l).drop 0).take lo ++ [[C.str w]] ++ ((strE l).drop lo).take ((strE l).length - lo)))] rfl rfl rfl ⟨rfl, by rw [hml, hput]⟩

def nestE (ls : List (List Tx)) : List (List (List C)) := ls.map strE
theorem nestE_len (ls : List (List Tx)) : (nestE ls).length = ls.length := by simp [nestE]
theorem nestE_get {ls : List (List Tx)} {k : Nat} {l : List Tx} (h : ls[k]? = some l) : (nestE ls)[k]? = some (strE l) := by unfold nestE; rw [List.getElem?_map, h]; rfl
theorem nestE_append (a b : List (List Tx)) : nestE (a ++ b) = nestE a ++ nestE b := by simp [nestE]
/-- The first n layers. -/
def nestTo (w : Tx) (n : Nat) : List (List (List C)) := nestE (layersTo w n)
def nestF (w : Tx) : List (List (List C)) := nestTo w (depthF w + 1)
theorem nestTo_len (w : Tx) (n : Nat) : (nestTo w n).length = n := by unfold nestTo; rw [nestE_len, layersTo_len]
theorem nestTo_get {w : Tx} {n k : Nat} (h : k < n) : (nestTo w n)[k]? = some (strE (layF w k)) := nestE_get (layersTo_get h)
theorem nestTo_succ (w : Tx) (n : Nat) : nestTo w (n + 1) = nestTo w n ++ [strE (layF w n)] := by unfold nestTo; rw [layersTo_succ, nestE_append]; rfl
theorem pot_small {w : Tx} (h : w.length ≤ 14) : potF w ≤ 1000 := by
  have h1 := pot_le w
  have h2 := List.count_le_length (a := (84 : UInt8)) (l := w)
  have h3 := List.count_le_length (a := (46 : UInt8)) (l := w)
  have h4 : w.count 84 * (w.length - w.count 84) ≤ 14 * 14 := Nat.mul_le_mul (by omega) (by omega)
  have h5 : w.count 46 * (w.length - w.count 84 - w.count 46) ≤ 14 * 14 := Nat.mul_le_mul (by omega) (by omega)
  omega

/-- What a layer's round has added up to line i and move j. -/
def accF (l : List Tx) (i : Nat) : List Tx := ((l.take i).flatMap succF).foldl addF []
theorem accF_zero (l : List Tx) : accF l 0 = [] := rfl
theorem accF_end {l : List Tx} {i : Nat} (h : l.length ≤ i) : accF l i = nextF l := by unfold accF nextF; rw [List.take_of_length_le h]
def accG (l : List Tx) (i : Nat) (ms : List Tx) (j : Nat) : List Tx := (ms.take j).foldl addF (accF l i)
theorem accG_zero (l : List Tx) (i : Nat) (ms : List Tx) : accG l i ms 0 = accF l i := rfl
theorem accG_succ (l : List Tx) (i : Nat) {ms : List Tx} {j : Nat} (h : j < ms.length) : accG l i ms (j + 1) = addF (accG l i ms j) ms[j] := by
  unfold accG; rw [List.take_succ_eq_append_getElem h, List.foldl_append]; rfl
theorem accG_end {l : List Tx} {i j : Nat} (h : i < l.length) (hj : (succF l[i]).length ≤ j) : accG l i (succF l[i]) j = accF l (i + 1) := by
  unfold accG accF
  rw [List.take_of_length_le hj, List.take_succ_eq_append_getElem h, List.flatMap_append, List.foldl_append]
  simp
theorem accG_sorted (l : List Tx) (i : Nat) (ms : List Tx) (j : Nat) : sortedT (accG l i ms j) := fold_sorted _ (fold_sorted _ sortedT_nil)
theorem accG_few {w : Tx} (hok : w.all okCh = true) (hl : w.length ≤ 14) {k i j : Nat} (hi : i < (layF w k).length) : (accG (layF w k) i (succF (layF w k)[i]) j).length ≤ 4398046511104 :=
  few_keys (sortedT_nodup (accG_sorted _ _ _ _)) fun s hs => by
    have hr : Reach w s (k + 1) := by
      unfold accG accF at hs
      rw [fold_mem, fold_mem] at hs
      rcases hs with (h | h) | h
      · cases h
      · obtain ⟨u, hu, hmu⟩ := List.mem_flatMap.1 h
        obtain ⟨m, hm2, e⟩ := List.mem_map.1 hmu
        exact ⟨u, lay_mem.1 (List.mem_of_mem_take hu), m, hm2, e.symm⟩
      · obtain ⟨m, hm2, e⟩ := List.mem_map.1 (List.mem_of_mem_take h)
        exact ⟨_, lay_mem.1 (List.getElem_mem hi), m, hm2, e.symm⟩
    obtain ⟨h1, h2, _⟩ := reach_ok hok hr
    exact ⟨by omega, fun c hc => okCh_okK (List.all_eq_true.1 h1 c hc)⟩

theorem reLayers_spec (w : Tx) (hok : w.all okCh = true) (hw : w.length ≤ 14) : Spec Tryd.prog 32 [.c (.str w)] [] (isRes [.c (.sl 1001)] [(1001, .ext (.nest 40 9 1 (nestF w) []))]) := by
  have hpd := depth_pot w
  have hpp := pot_small hw
  have hel := nestTo_len w
  have hge : ∀ k, (nestTo w (k + 1))[k]? = some (strE (layF w k)) := fun k => nestTo_get (by omega)
  have hns := nestTo_succ w
  have hn1 : nestTo w 1 = [[[C.str w]]] := rfl
  have hall : ∀ k, ∀ u ∈ layF w k, u.all okCh = true ∧ u.length ≤ 14 := fun k u hu => by
    obtain ⟨h1, h2, _⟩ := reach_ok hok (lay_mem.1 hu)
    exact ⟨h1, by omega⟩
  have hfew := fun k => lay_few hok hw k
  have haf : ∀ (k i : Nat) (hi : i < (layF w k).length) (j : Nat), _ := fun k i hi j => accG_few (j := j) hok hw hi
  have hz : ∀ k, accF (layF w k) 0 = [] := fun k => rfl
  have he : ∀ k i, (layF w k).length ≤ i → accF (layF w k) i = layF w (k + 1) := fun k i h => accF_end h
  have hret : ∀ k, k ≤ depthF w → layF w (k + 1) = [] → nestTo w (k + 1) = nestF w := fun k hk e => by
    have h1 : ¬ k + 1 ≤ depthF w := fun h => depth_ne h e
    rw [show k = depthF w by omega]; rfl
  have hmore : ∀ k, layF w (k + 1) ≠ [] → k + 1 ≤ depthF w := fun k h => depth_iff.1 h
  generalize nestF w = neF at *
  generalize nestTo w = nf at *
  generalize layF w = ly at *
  generalize depthF w = D at *
  refine Spec.of_wpx tt_ok Tryd.func32 (by kernel_rfl) rfl ?_
  (repeat' ((conv => whnf); first | refine CondVC.t ?_ | refine CondVC.f ?_ | refine CondVC.dec (fun h => ?_) (fun h => ?_) | refine CondVC.ndec (fun h => ?_) (fun h => ?_) | refine CondVC.mk (fun h => ?_) (fun h => ?_) | refine ArVC.i64 (by first | omega | (simp only; omega)) ?_ | refine SideVC.mk (by first | omega | decide | (simp only; omega) | (simp [slS]; done) | (simp [slS]; omega) | (simp only [byteE_len, mvE_len, strE_len, intE_len, esC_len, List.length_cons, List.length_nil, List.length_append, List.length_replicate, List.length_set, Int.toNat_natCast, and_true] at *; omega)) ?_ | refine LoopN.go ?_ | exact trivial | refine AltVC.mk ?_ ?_ | refine HeldVC.mk rfl ?_ | refine RestVC2.nestBuild tt_ok rfl rfl rfl rfl rfl rfl rfl rfl ?_ | refine OpVC.more tt_ok ?_ | refine RestVC.ext tt_ok ?_)); all_goals (conv => whnf)
  refine LoopVC.mk (G := Nat) (fun k => ⟨[(3, .v (.c (.sl 1021)))], [(1021, .ext (.nest 40 9 1 (nf (k + 1)) []))]⟩) (fun k => k ≤ D) (fun k => D - k) 0 (Nat.zero_le _) (Sub.mk [(1021, 11)] [] ⟨rfl, trivial⟩ (by rw [hn1]; rfl) rfl) ?_
  intro k hk
  have hel := hel (k + 1)
  have hidx : (((nf (k + 1)).length : Int) - 1).toNat = k := by rw [hel]; omega
  have g0 := hge k
  have g0' : (nf (k + 1))[(((nf (k + 1)).length : Int) - 1).toNat]? = some (strE (ly k)) := by rw [hidx]; exact g0
  have hall := hall k
  have hfew := hfew k
  have hsl := strE_len (ly k)
  have haf := haf k
  have hz := hz k
  have he := he k
  have hGz : ∀ i ms, accG (ly k) i ms 0 = accF (ly k) i := fun i ms => rfl
  have hGs : ∀ i (ms : List Tx) j (h : j < ms.length), accG (ly k) i ms (j + 1) = addF (accG (ly k) i ms j) ms[j] := fun i ms j h => accG_succ _ i h
  have hGe : ∀ i j (h : i < (ly k).length), (succF (ly k)[i]).length ≤ j → accG (ly k) i (succF (ly k)[i]) j = accF (ly k) (i + 1) := fun i j h hj => accG_end h hj
  have hGt : ∀ i ms j, sortedT (accG (ly k) i ms j) := fun i ms j => accG_sorted _ i ms j
  have hret := hret k hk
  have hmore := hmore k
  have hne := hns (k + 1)
  generalize ly (k + 1) = nl at *
  generalize ly k = l at *
  generalize accG l = ag at *
  generalize accF l = af at *
  (repeat' ((conv => whnf); first | refine CondVC.t ?_ | refine CondVC.f ?_ | refine CondVC.dec (fun h => ?_) (fun h => ?_) | refine CondVC.ndec (fun h => ?_) (fun h => ?_) | refine CondVC.mk (fun h => ?_) (fun h => ?_) | refine ArVC.i64 (by first | omega | (simp only; omega)) ?_ | refine SideVC.mk (by first | omega | decide | (simp only; omega) | (simp [slS]; done) | (simp [slS]; omega) | (simp only [byteE_len, mvE_len, strE_len, intE_len, esC_len, List.length_cons, List.length_nil, List.length_append, List.length_replicate, List.length_set, Int.toNat_natCast, and_true] at *; omega)) ?_ | refine LoopN.go ?_ | exact trivial | refine AltVC.mk ?_ ?_ | refine HeldVC.mk rfl ?_ | refine RestVC2.nestAddr tt_ok rfl rfl rfl rfl rfl (by rw [hel]; omega) ?_ | refine RestVC2.nestLoad tt_ok rfl rfl rfl rfl (by rw [hidx, hel]; omega) ?_ | refine RestVC2.insLen tt_ok rfl rfl rfl rfl g0' ?_ | refine OpVC.more tt_ok ?_ | refine RestVC.ext tt_ok ?_)); all_goals (conv => whnf)
  refine LoopVC.mk (G := Nat) (fun i => ⟨[(19, .v (i64 i)), (18, .v (i64 l.length)), (17, .v (.c (.ins 1021 k))), (4, .v (.c (.sl 1031))), (3, .v (.c (.sl 1021)))],
      [(1031, .sl 9 1 (strE (af i))), (1021, .ext (.nest 40 9 1 (nf (k + 1)) []))]⟩)
    (fun i => i ≤ l.length) (fun i => l.length - i) 0 (Nat.zero_le _)
    (Sub.trans (t := ⟨[(19, .v (i64 0)), (18, .v (i64 (strE l).length)), (17, .v (.c (.ins 1021 ((((nf (k + 1)).length : Int) - 1).toNat)))), (4, .v (.c (.sl 1031))), (3, .v (.c (.sl 1021)))],
      [(1031, .sl 9 1 []), (1021, .ext (.nest 40 9 1 (nf (k + 1)) []))]⟩)
      (Sub.nil 1031 9 1 ⟨rfl, rfl, rfl, rfl, rfl, trivial⟩ rfl rfl)
      (Sub.mk [] _ ⟨rfl, by rw [hsl]; rfl, congrArg (fun z => some (E.v (.c (.ins 1021 z)))) hidx, rfl, rfl, trivial⟩ (by rw [hz]; rfl) rfl)) ?_
  intro i hi
  by_cases hil : i < l.length
  · have gi : (strE l)[(i : Int).toNat]? = some [.str l[i]] := by rw [Int.toNat_natCast]; exact strE_get hil
    obtain ⟨hvok, hvl⟩ := hall _ (List.getElem_mem hil)
    have hmv := liMoves_spec l[i] true true hvok (by omega)
    rw [liMoves_eq hvok] at hmv
    have ekd : kindsF true true = both := rfl
    rw [ekd] at hmv
    have hmv := Spec.ren [(1001, 2001)] [(2001, 1001)] hmv rfl rfl rfl
    have hin : ∀ m ∈ movesF l[i] both, _ := fun m hm => movesF_in hm
    have hmk : ∀ m ∈ movesF l[i] both, _ := fun m hm => liMake_spec l[i] m (hin m hm).1 (hin m hm).2.1 (hin m hm).2.2 (by omega)
    have hsuccl : (succF l[i]).length = (movesF l[i] both).length := by simp [succF]
    have hsuccg : ∀ j (h : j < (succF l[i]).length) (h' : j < (movesF l[i] both).length), (succF l[i])[j] = madeF l[i] (movesF l[i] both)[j] := fun j h h' => by simp [succF]
    have hGz := hGz i (succF l[i])
    have hGs := hGs i (succF l[i])
    have hGe := fun j => hGe i j hil
    have hGt := hGt i (succF l[i])
    have hfewi := haf i hil
    have hmll := movesF_len l[i] both
    generalize succF l[i] = sv at *
    generalize ag i sv = agi at *
    generalize movesF l[i] both = ms at *
    have hml := mvE_len ms
    (repeat' ((conv => whnf); first | refine CondVC.t ?_ | refine CondVC.f ?_ | refine CondVC.dec (fun h => ?_) (fun h => ?_) | refine CondVC.ndec (fun h => ?_) (fun h => ?_) | refine CondVC.mk (fun h => ?_) (fun h => ?_) | refine ArVC.i64 (by first | omega | (simp only; omega)) ?_ | refine SideVC.mk (by first | omega | decide | (simp only; omega) | (simp [slS]; done) | (simp [slS]; omega) | (simp only [byteE_len, mvE_len, strE_len, intE_len, esC_len, List.length_cons, List.length_nil, List.length_append, List.length_replicate, List.length_set, Int.toNat_natCast, and_true] at *; omega)) ?_ | refine LoopN.go ?_ | exact trivial | refine AltVC.mk ?_ ?_ | refine HeldVC.mk rfl ?_ | refine RestVC2.insAddr tt_ok rfl rfl rfl rfl rfl g0 (by rw [hsl]; omega) ?_ | refine RestVC2.insLoad tt_ok rfl rfl rfl g0 gi rfl ?_ | refine CallVC.res [] rfl hmv rfl ?_ | refine OpVC.more tt_ok ?_ | refine RestVC.ext tt_ok ?_)); all_goals (conv => whnf)
    all_goals try (exfalso; omega)
    refine LoopVC.mk (G := Nat) (fun j => ⟨[(26, .v (i64 j)), (25, .v (i64 ms.length)), (24, .v (.c (.sl 2001))), (6, .v (.c (.str l[i]))), (19, .v (i64 i)), (18, .v (i64 l.length)), (17, .v (.c (.ins 1021 k))), (4, .v (.c (.sl 1031))), (3, .v (.c (.sl 1021)))],
        [(2001, .sl 45 2 (mvE ms)), (1031, .sl 9 1 (strE (agi j))), (1021, .ext (.nest 40 9 1 (nf (k + 1)) []))]⟩)
      (fun j => j ≤ ms.length) (fun j => ms.length - j) 0 (Nat.zero_le _) (Sub.mk [] _ ⟨rfl, by rw [hml]; rfl, rfl, rfl, rfl, rfl, rfl, rfl, rfl, trivial⟩ (by rw [hGz]; rfl) rfl) ?_
    intro j hj
    by_cases hjl : j < ms.length
    · have hmem := List.getElem_mem hjl
      have gj : (mvE ms)[(j : Int).toNat]? = some (mvC ms[j]) := by rw [Int.toNat_natCast]; exact mvE_get hjl
      have h6 := hmk _ hmem
      have hsj := hGs j (by omega)
      rw [hsuccg j (by omega) hjl] at hsj
      have h7 := reAdd_spec (agi j) (madeF l[i] ms[j]) (hGt j) (hfewi j)
      rw [← hsj] at h7
      have h7 := Spec.ren [(1000, 1031), (1001, 1032)] [(1031, 1000), (1032, 1001)] h7 rfl rfl rfl
      generalize madeF l[i] ms[j] = w' at *
      obtain ⟨a2, ha2⟩ : ∃ a2, a2 = agi (j + 1) := ⟨_, rfl⟩
      rw [← ha2] at h7
      (repeat' ((conv => whnf); first | refine CondVC.t ?_ | refine CondVC.f ?_ | refine CondVC.dec (fun h => ?_) (fun h => ?_) | refine CondVC.ndec (fun h => ?_) (fun h => ?_) | refine CondVC.mk (fun h => ?_) (fun h => ?_) | refine ArVC.i64 (by first | omega | (simp only; omega)) ?_ | refine SideVC.mk (by first | omega | decide | (simp only; omega) | (simp [slS]; done) | (simp [slS]; omega) | (simp only [byteE_len, mvE_len, strE_len, intE_len, esC_len, List.length_cons, List.length_nil, List.length_append, List.length_replicate, List.length_set, Int.toNat_natCast, and_true] at *; omega)) ?_ | refine LoopN.go ?_ | exact trivial | refine AltVC.mk ?_ ?_ | refine HeldVC.mk rfl ?_ | refine LoadVC.mk _ gj ?_ | refine SideVC.mk (by rw [hml]; omega) ?_ | refine CallVC.pure h6 rfl ?_ | refine CallVC.res [1031] rfl h7 rfl ?_ | refine OpVC.more tt_ok ?_ | refine RestVC.ext tt_ok ?_)); all_goals (conv => whnf)
      all_goals first
        | (exfalso; omega)
        | exact ⟨j + 1, by omega, by omega, Sub.mk [(1031, 1032)] _ ⟨rfl, rfl, rfl, rfl, rfl, rfl, rfl, rfl, rfl, trivial⟩ (by rw [← ha2]; rfl) rfl⟩
    · have hej := hGe j (by omega)
      (repeat' ((conv => whnf); first | refine CondVC.t ?_ | refine CondVC.f ?_ | refine CondVC.dec (fun h => ?_) (fun h => ?_) | refine CondVC.ndec (fun h => ?_) (fun h => ?_) | refine CondVC.mk (fun h => ?_) (fun h => ?_) | refine ArVC.i64 (by first | omega | (simp only; omega)) ?_ | refine SideVC.mk (by first | omega | decide | (simp only; omega) | (simp [slS]; done) | (simp [slS]; omega) | (simp only [byteE_len, mvE_len, strE_len, intE_len, esC_len, List.length_cons, List.length_nil, List.length_append, List.length_replicate, List.length_set, Int.toNat_natCast, and_true] at *; omega)) ?_ | refine LoopN.go ?_ | exact trivial | refine AltVC.mk ?_ ?_ | refine HeldVC.mk rfl ?_ | refine OpVC.more tt_ok ?_ | refine RestVC.ext tt_ok ?_)); all_goals (conv => whnf)
      all_goals first
        | (exfalso; omega)
        | exact ⟨i + 1, by omega, by omega, Sub.mk [] _ ⟨rfl, rfl, rfl, rfl, rfl, trivial⟩ (by rw [← hej]; rfl) rfl⟩
  · have hei := he i (by omega)
    rw [hei]
    have hsn := strE_len nl
    by_cases hn0 : nl = []
    · have h0 : nl.length = 0 := by rw [hn0]; rfl
      have hr2 := hret hn0
      (repeat' ((conv => whnf); first | refine CondVC.t ?_ | refine CondVC.f ?_ | refine CondVC.dec (fun h => ?_) (fun h => ?_) | refine CondVC.ndec (fun h => ?_) (fun h => ?_) | refine CondVC.mk (fun h => ?_) (fun h => ?_) | refine ArVC.i64 (by first | omega | (simp only; omega)) ?_ | refine SideVC.mk (by first | omega | decide | (simp only; omega) | (simp [slS]; done) | (simp [slS]; omega) | (simp only [byteE_len, mvE_len, strE_len, intE_len, esC_len, List.length_cons, List.length_nil, List.length_append, List.length_replicate, List.length_set, Int.toNat_natCast, and_true] at *; omega)) ?_ | refine LoopN.go ?_ | exact trivial | refine AltVC.mk ?_ ?_ | refine HeldVC.mk rfl ?_ | refine OpVC.more tt_ok ?_ | refine RestVC.ext tt_ok ?_)); all_goals (conv => whnf)
      all_goals first
        | (exfalso; omega)
        | exact RetVC.ren [(1001, 1021)] [.c (.sl 1001)] [(1001, .ext (.nest 40 9 1 (nf (k + 1)) []))] rfl rfl rfl ⟨rfl, by rw [hr2]⟩
    · have h0 : ¬ nl.length = 0 := fun h => hn0 (List.eq_nil_of_length_eq_zero h)
      have hmo := hmore hn0
      (repeat' ((conv => whnf); first | refine CondVC.t ?_ | refine CondVC.f ?_ | refine CondVC.dec (fun h => ?_) (fun h => ?_) | refine CondVC.ndec (fun h => ?_) (fun h => ?_) | refine CondVC.mk (fun h => ?_) (fun h => ?_) | refine ArVC.i64 (by first | omega | (simp only; omega)) ?_ | refine SideVC.mk (by first | omega | decide | (simp only; omega) | (simp [slS]; done) | (simp [slS]; omega) | (simp only [byteE_len, mvE_len, strE_len, intE_len, esC_len, List.length_cons, List.length_nil, List.length_append, List.length_replicate, List.length_set, Int.toNat_natCast, and_true] at *; omega)) ?_ | refine LoopN.go ?_ | exact trivial | refine AltVC.mk ?_ ?_ | refine HeldVC.mk rfl ?_ | refine RestVC2.nestBuild tt_ok rfl rfl rfl rfl rfl rfl rfl rfl ?_ | refine RestVC2.nestAppend tt_ok rfl rfl rfl rfl rfl rfl rfl rfl rfl rfl rfl (Nat.succ_pos _) (by rw [hel]; simp only [List.length_cons, List.length_nil]; omega) ?_ | refine OpVC.more tt_ok ?_ | refine RestVC.ext tt_ok ?_)); all_goals (conv => whnf)
      all_goals first
        | (exfalso; omega)
        | exact ⟨k + 1, by omega, by omega, Sub.mk [(1021, 44)] _ ⟨rfl, trivial⟩ (by simp only [hne]; rfl) rfl⟩

/-! ### After how many moves -/
theorem reAfter_spec (w v : Tx) (hok : w.all okCh = true) (hw : w.length ≤ 14) : Spec Tryd.prog 28 [.c (.str w), .c (.str v)] [] (isRes [i64 (afterF w v)] []) := by
  have h1 := Spec.ren [(1001, 2001)] [(2001, 1001)] (reLayers_spec w hok hw) rfl rfl rfl
  have hget : ∀ k, k < depthF w + 1 → (nestF w)[k]? = some (strE (layF w k)) := fun k hk => nestTo_get hk
  have hel : (nestF w).length = depthF w + 1 := nestTo_len w _
  have hD := depth_pot w
  have hpp := pot_small hw
  have hfound : ∀ k, v ∈ layF w k → afterF w v = k := fun k h => after_some (lay_mem.1 h)
  have hnot : (∀ k, k ≤ depthF w → v ∉ layF w k) → afterF w v = -1 := fun h => after_none fun k hk => h k (reach_depth hk) (lay_mem.2 hk)
  have hfew := fun k => lay_few hok hw k
  generalize layF w = ly at *
  generalize afterF w v = q at *
  generalize nestF w = ne at *
  generalize depthF w = D at *
  refine Spec.of_wpx tt_ok Tryd.func28 (by kernel_rfl) rfl ?_
  (repeat' ((conv => whnf); first | refine CondVC.t ?_ | refine CondVC.f ?_ | refine CondVC.dec (fun h => ?_) (fun h => ?_) | refine CondVC.ndec (fun h => ?_) (fun h => ?_) | refine CondVC.mk (fun h => ?_) (fun h => ?_) | refine ArVC.i64 (by first | omega | (simp only; omega)) ?_ | refine SideVC.mk (by first | omega | decide | (simp only; omega) | (simp [slS]; done) | (simp [slS]; omega) | (simp only [byteE_len, mvE_len, strE_len, intE_len, esC_len, List.length_cons, List.length_nil, List.length_append, List.length_replicate, List.length_set, Int.toNat_natCast, and_true] at *; omega)) ?_ | refine LoopN.go ?_ | exact trivial | refine AltVC.mk ?_ ?_ | refine HeldVC.mk rfl ?_ | refine CallVC.res [] rfl h1 rfl ?_ | refine OpVC.more tt_ok ?_ | refine RestVC.ext tt_ok ?_)); all_goals (conv => whnf)
  refine LoopVC.mk (G := Nat) (fun k => ⟨[(12, .v (i64 k)), (11, .v (i64 ne.length)), (10, .v (.c (.sl 2001))), (1, .v (.c (.str v)))], [(2001, .ext (.nest 40 9 1 ne []))]⟩)
    (fun k => k ≤ D + 1 ∧ ∀ j, j < k → v ∉ ly j) (fun k => D + 1 - k) 0 ⟨Nat.zero_le _, fun j h => absurd h (Nat.not_lt_zero _)⟩ (Sub.mk [] _ ⟨rfl, rfl, rfl, rfl, trivial⟩ rfl rfl) ?_
  intro k ⟨hk, hno⟩
  by_cases hkl : k < D + 1
  · have g0 : ne[(k : Int).toNat]? = some (strE (ly k)) := by rw [Int.toNat_natCast]; exact hget k hkl
    have hfk := hfew k
    have hfd := hfound k
    have hnok : v ∉ ly k → ∀ j, j < k + 1 → v ∉ ly j := fun h j hj => by
      by_cases e : j = k
      · subst e; exact h
      · exact hno j (by omega)
    generalize ly k = l at *
    have hsl := strE_len l
    (repeat' ((conv => whnf); first | refine CondVC.t ?_ | refine CondVC.f ?_ | refine CondVC.dec (fun h => ?_) (fun h => ?_) | refine CondVC.ndec (fun h => ?_) (fun h => ?_) | refine CondVC.mk (fun h => ?_) (fun h => ?_) | refine ArVC.i64 (by first | omega | (simp only; omega)) ?_ | refine SideVC.mk (by first | omega | decide | (simp only; omega) | (simp [slS]; done) | (simp [slS]; omega) | (simp only [byteE_len, mvE_len, strE_len, intE_len, esC_len, List.length_cons, List.length_nil, List.length_append, List.length_replicate, List.length_set, Int.toNat_natCast, and_true] at *; omega)) ?_ | refine LoopN.go ?_ | exact trivial | refine AltVC.mk ?_ ?_ | refine HeldVC.mk rfl ?_ | refine RestVC2.nestAddr tt_ok rfl rfl rfl rfl rfl (by rw [hel]; omega) ?_ | refine RestVC2.nestLoad tt_ok rfl rfl rfl rfl (by rw [hel]; omega) ?_ | refine RestVC2.insLen tt_ok rfl rfl rfl rfl g0 ?_ | refine OpVC.more tt_ok ?_ | refine RestVC.ext tt_ok ?_)); all_goals (conv => whnf)
    all_goals try (exfalso; omega)
    refine LoopVC.mk (G := Nat) (fun i => ⟨[(19, .v (i64 i)), (18, .v (i64 l.length)), (17, .v (.c (.ins 2001 ((k : Int).toNat)))), (5, .v (i64 k)), (12, .v (i64 k)), (11, .v (i64 ne.length)), (10, .v (.c (.sl 2001))), (1, .v (.c (.str v)))], [(2001, .ext (.nest 40 9 1 ne []))]⟩)
      (fun i => i ≤ l.length ∧ ∀ j (hj : j < l.length), j < i → l[j] ≠ v) (fun i => l.length - i) 0 ⟨Nat.zero_le _, fun j hj h => absurd h (Nat.not_lt_zero _)⟩ (Sub.mk [] _ ⟨rfl, by rw [hsl]; rfl, rfl, rfl, rfl, rfl, rfl, rfl, trivial⟩ rfl rfl) ?_
    intro i ⟨hi, hin⟩
    by_cases hil : i < l.length
    · have gi : (strE l)[(i : Int).toNat]? = some [.str l[i]] := by rw [Int.toNat_natCast]; exact strE_get hil
      by_cases he : l[i] = v
      · have hq := hfd (by rw [← he]; exact List.getElem_mem hil)
        subst hq
        (repeat' ((conv => whnf); first | refine CondVC.t ?_ | refine CondVC.f ?_ | refine CondVC.dec (fun h => ?_) (fun h => ?_) | refine CondVC.ndec (fun h => ?_) (fun h => ?_) | refine CondVC.mk (fun h => ?_) (fun h => ?_) | refine ArVC.i64 (by first | omega | (simp only; omega)) ?_ | refine SideVC.mk (by first | omega | decide | (simp only; omega) | (simp [slS]; done) | (simp [slS]; omega) | (simp only [byteE_len, mvE_len, strE_len, intE_len, esC_len, List.length_cons, List.length_nil, List.length_append, List.length_replicate, List.length_set, Int.toNat_natCast, and_true] at *; omega)) ?_ | refine LoopN.go ?_ | exact trivial | refine AltVC.mk ?_ ?_ | refine HeldVC.mk rfl ?_ | refine RestVC2.insAddr tt_ok rfl rfl rfl rfl rfl g0 (by rw [hsl]; omega) ?_ | refine RestVC2.insLoad tt_ok rfl rfl rfl g0 gi rfl ?_ | refine OpVC.more tt_ok ?_ | refine RestVC.ext tt_ok ?_)); all_goals (conv => whnf)
        all_goals first
          | (exfalso; omega)
          | exact RetVC.res rfl rfl
          | (exfalso; simp_all; done)
      · (repeat' ((conv => whnf); first | refine CondVC.t ?_ | refine CondVC.f ?_ | refine CondVC.dec (fun h => ?_) (fun h => ?_) | refine CondVC.ndec (fun h => ?_) (fun h => ?_) | refine CondVC.mk (fun h => ?_) (fun h => ?_) | refine ArVC.i64 (by first | omega | (simp only; omega)) ?_ | refine SideVC.mk (by first | omega | decide | (simp only; omega) | (simp [slS]; done) | (simp [slS]; omega) | (simp only [byteE_len, mvE_len, strE_len, intE_len, esC_len, List.length_cons, List.length_nil, List.length_append, List.length_replicate, List.length_set, Int.toNat_natCast, and_true] at *; omega)) ?_ | refine LoopN.go ?_ | exact trivial | refine AltVC.mk ?_ ?_ | refine HeldVC.mk rfl ?_ | refine RestVC2.insAddr tt_ok rfl rfl rfl rfl rfl g0 (by rw [hsl]; omega) ?_ | refine RestVC2.insLoad tt_ok rfl rfl rfl g0 gi rfl ?_ | refine OpVC.more tt_ok ?_ | refine RestVC.ext tt_ok ?_)); all_goals (conv => whnf)
        all_goals first
          | (exfalso; omega)
          | exact ⟨i + 1, ⟨by omega, fun j hj h => by
              by_cases e : j = i
              · subst e; exact he
              · exact hin j hj (by omega)⟩, by omega, Sub.mk [] _ ⟨rfl, rfl, rfl, rfl, rfl, rfl, rfl, rfl, trivial⟩ rfl rfl⟩
          | (exfalso; simp_all; done)
    · have hnm : v ∉ l := fun h => by
        obtain ⟨j, hj, e⟩ := List.getElem_of_mem h
        exact hin j hj (by omega) e
      (repeat' ((conv => whnf); first | refine CondVC.t ?_ | refine CondVC.f ?_ | refine CondVC.dec (fun h => ?_) (fun h => ?_) | refine CondVC.ndec (fun h => ?_) (fun h => ?_) | refine CondVC.mk (fun h => ?_) (fun h => ?_) | refine ArVC.i64 (by first | omega | (simp only; omega)) ?_ | refine SideVC.mk (by first | omega | decide | (simp only; omega) | (simp [slS]; done) | (simp [slS]; omega) | (simp only [byteE_len, mvE_len, strE_len, intE_len, esC_len, List.length_cons, List.length_nil, List.length_append, List.length_replicate, List.length_set, Int.toNat_natCast, and_true] at *; omega)) ?_ | refine LoopN.go ?_ | exact trivial | refine AltVC.mk ?_ ?_ | refine HeldVC.mk rfl ?_ | refine OpVC.more tt_ok ?_ | refine RestVC.ext tt_ok ?_)); all_goals (conv => whnf)
      all_goals first
        | (exfalso; omega)
        | exact ⟨k + 1, ⟨by omega, hnok hnm⟩, by omega, Sub.mk [] _ ⟨rfl, rfl, rfl, rfl, trivial⟩ rfl rfl⟩
  · have hq := hnot fun j hj => hno j (by omega)
    subst hq
    (repeat' ((conv => whnf); first | refine CondVC.t ?_ | refine CondVC.f ?_ | refine CondVC.dec (fun h => ?_) (fun h => ?_) | refine CondVC.ndec (fun h => ?_) (fun h => ?_) | refine CondVC.mk (fun h => ?_) (fun h => ?_) | refine ArVC.i64 (by first | omega | (simp only; omega)) ?_ | refine SideVC.mk (by first | omega | decide | (simp only; omega) | (simp [slS]; done) | (simp [slS]; omega) | (simp only [byteE_len, mvE_len, strE_len, intE_len, esC_len, List.length_cons, List.length_nil, List.length_append, List.length_replicate, List.length_set, Int.toNat_natCast, and_true] at *; omega)) ?_ | refine LoopN.go ?_ | exact trivial | refine AltVC.mk ?_ ?_ | refine HeldVC.mk rfl ?_ | refine OpVC.more tt_ok ?_ | refine RestVC.ext tt_ok ?_)); all_goals (conv => whnf)
    all_goals first
      | (exfalso; omega)
      | exact RetVC.res rfl rfl
end Go.Proofs.YtblihaicbhdbdaaDoor.X
