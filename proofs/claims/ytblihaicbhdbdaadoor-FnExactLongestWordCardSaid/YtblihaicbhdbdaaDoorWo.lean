/- The first word from a line to another one: the program's and the reference's. No condition beyond each statement's. -/
import Derived.Test.YtblihaicbhdbdaaDoorWoF
import Derived.Test.YtblihaicbhdbdaaDoorCat
import Derived.Test.YtblihaicbhdbdaaDoorWays
import Derived.Test.YtblihaicbhdbdaaDoorLayers
namespace Go.Proofs.YtblihaicbhdbdaaDoor.X
open Go.Proofs
set_option maxRecDepth 100000
set_option linter.unusedVariables false
set_option linter.unusedSimpArgs false

theorem sign_slice {w : Tx} {m : Mv} (h : 0 ≤ m.1 ∧ m.1 < w.length) : slS w m.1.toNat (m.1 + 1).toNat = [sgnF w m] := by
  rw [show (m.1 + 1).toNat = m.1.toNat + 1 by omega]
  exact slS_one (by omega)
def wordToF (v w : Tx) : Tx := if 0 < playsF v w then wfirF v w else []
theorem wordTo_spec (w v : Tx) (hw : w.length ≤ 10) (hg : w.count 46 = 1) : Spec Tryd.prog 31 [.c (.str w), .c (.str v)] []
    (isRes [.c (.str (wordToF v w)), vb (decide (0 < playsF v w))] []) := by
  have t1 := Spec.ren [(1000, 2000)] [(2000, 1000)] (to_spec v) rfl rfl rfl
  have f1 := Spec.renE [(1000, 2000)] [(2000, 1000)] (ways_all v w (by omega) _ (okWays_one v)) (fun _ => rfl) (fun _ => rfl) rfl
  rw [wp_one hw hg] at f1
  unfold wordToF
  by_cases hp : 0 < playsF v w
  · rw [if_pos hp, decide_eq_true hp]
    obtain ⟨tot, htot⟩ : ∃ tot, tot = wfirF v w := ⟨_, rfl⟩
    rw [← htot]
    have htl : tot.length ≤ 100 := by
      have h1 := wfirF_len v _ w rfl
      have h2 := wayF_le w
      have h3 : w.length * w.length ≤ 10 * 10 := Nat.mul_le_mul hw hw
      rw [htot]; omega
    obtain ⟨n0, hn0⟩ : ∃ n0, playsF v w = n0 + 1 := ⟨playsF v w - 1, by omega⟩
    rw [hn0] at f1
    refine Spec.of_wpx tt_ok Tryd.func31 (by kernel_rfl) rfl ?_
    (repeat' ((conv => whnf); first | refine CondVC.t ?_ | refine CondVC.f ?_ | refine CondVC.dec (fun h => ?_) (fun h => ?_) | refine CondVC.ndec (fun h => ?_) (fun h => ?_) | refine CondVC.mk (fun h => ?_) (fun h => ?_) | refine ArVC.i64 (by first | omega | (simp only; omega)) ?_ | refine SideVC.mk (by first | omega | decide | (simp only; omega) | (simp [slS]; done) | (simp [slS]; omega) | (simp only [byteE_len, mvE_len, strE_len, intE_len, esC_len, List.length_cons, List.length_nil, List.length_append, List.length_replicate, List.length_set, Int.toNat_natCast, and_true] at *; omega)) ?_ | refine LoopN.go ?_ | exact trivial | refine AltVC.mk ?_ ?_ | refine HeldVC.mk rfl ?_ | refine CallVC.res [] rfl t1 rfl ?_ | (refine CallVC.ex [2000] rfl f1 ?_; intro e1 he1; refine ⟨rfl, ?_⟩) | refine OpVC.more tt_ok ?_ | refine RestVC.ext tt_ok ?_)); all_goals (conv => whnf)
    all_goals try (exfalso; omega)
    refine LoopVC.mk (G := Tx × Tx × List (C × V)) (fun γ => ⟨[(7, .v (.c (.str γ.2.1))), (6, .v (.c (.ptr 6 0))), (1, .v (.c (.str v))), (0, .v (.c (.str γ.1)))],
        [(6, .box 52 [.str v, .mp 2000]), (2000, .ext (.mp none γ.2.2))]⟩)
      (fun γ => γ.1.length ≤ 10 ∧ γ.1.count 46 = 1 ∧ 0 < playsF v γ.1 ∧ γ.2.1 ++ wfirF v γ.1 = tot ∧ okWays v γ.2.2) (fun γ => wayF γ.1) (w, [], e1) ⟨hw, hg, hp, by rw [htot]; rfl, he1⟩ (Sub.mk [] _ ⟨rfl, rfl, rfl, rfl, trivial⟩ rfl rfl) ?_
    rintro ⟨w', out, es⟩ ⟨hwl, hwg, hwp, hout, hes⟩
    simp only at hwl hwg hwp hout hes
    have hol : out.length ≤ 100 := by have := congrArg List.length hout; simp at this; omega
    by_cases hwv : w' = v
    · have e1 : tot = out := by rw [← hout, hwv, wfirF_self, List.append_nil]
      rw [e1]
      (repeat' ((conv => whnf); first | refine CondVC.t ?_ | refine CondVC.f ?_ | refine CondVC.dec (fun h => ?_) (fun h => ?_) | refine CondVC.ndec (fun h => ?_) (fun h => ?_) | refine CondVC.mk (fun h => ?_) (fun h => ?_) | refine ArVC.i64 (by first | omega | (simp only; omega)) ?_ | refine SideVC.mk (by first | omega | decide | (simp only; omega) | (simp [slS]; done) | (simp [slS]; omega) | (simp only [byteE_len, mvE_len, strE_len, intE_len, esC_len, List.length_cons, List.length_nil, List.length_append, List.length_replicate, List.length_set, Int.toNat_natCast, and_true] at *; omega)) ?_ | refine LoopN.go ?_ | exact trivial | refine AltVC.mk ?_ ?_ | refine HeldVC.mk rfl ?_ | refine OpVC.more tt_ok ?_ | refine RestVC.ext tt_ok ?_)); all_goals (conv => whnf)
      all_goals first
        | (exfalso; simp_all; done)
        | exact RetVC.res rfl rfl
    · obtain ⟨mp, hmp⟩ := pickW_some hwv hwp
      have hstep := fun m (h : pickW v w' = some m) => wfirF_step hwv h
      have hfind : ∀ k (h : k < (woL w').length), (decide (0 < playsF v (madeF w' (woL w')[k]))) = true → (∀ j (hj : j < (woL w').length), j < k → decide (0 < playsF v (madeF w' (woL w')[j])) = false) → pickW v w' = some (woL w')[k] := fun k h h1 h2 => find_at h h1 h2
      have hnone : (∀ j (hj : j < (woL w').length), decide (0 < playsF v (madeF w' (woL w')[j])) = false) → False := fun h => by
        have h1 := List.mem_of_find?_eq_some hmp
        obtain ⟨j, hj, e⟩ := List.getElem_of_mem h1
        have h2 := h j hj
        rw [e] at h2
        have h3 := (pickW_mem hmp).2
        rw [decide_eq_true h3] at h2
        cases h2
      have hin : ∀ m ∈ woL w', _ := fun m hm => movesF_in (woL_mem.1 hm)
      have hway : ∀ m ∈ woL w', _ := fun m hm => way_made (woL_mem.1 hm)
      have hmk : ∀ m ∈ woL w', _ := fun m hm => made_spec w' m (hin m hm).1 (hin m hm).2.1 (by omega)
      have hone : ∀ m ∈ woL w', _ := fun m hm => one_made hwg (woL_mem.1 hm)
      have hwq : ∀ m ∈ woL w', wp v (madeF w' m) = _ := fun m hm => wp_one (g := v) (by rw [madeF_len]; exact hwl) (hone m hm)
      have hfr : ∀ m, m ∈ woL w' → ∀ es, okWays v es → _ := fun m hm es hes => Spec.renE [(1000, 2000)] [(2000, 1000)] (ways_all v (madeF w' m) (by rw [madeF_len]; omega) es hes) (fun _ => rfl) (fun _ => rfl) rfl
      have h70 := Spec.ren [(1001, 2101)] [(2101, 1001)] (moves_spec w' [70] (by omega)) rfl rfl rfl
      have h84 := Spec.ren [(1001, 2102)] [(2102, 1001)] (moves_spec w' [84] (by omega)) rfl rfl rfl
      have l70 := movesF_len w' [70]
      have l84 := movesF_len w' [84]
      have hc := Spec.ren [(1000, 24), (1001, 2101), (1002, 2102), (1003, 2103)] [(24, 1000), (2101, 1001), (2102, 1002), (2103, 1003)] (concat_spec (movesF w' [70]) (movesF w' [84]) (by omega) (by omega)) rfl rfl rfl
      rw [show movesF w' [70] ++ movesF w' [84] = woL w' from rfl] at hc
      have hll := woL_len hwg
      generalize woL w' = L at *
      generalize movesF w' [70] = m70 at *
      generalize movesF w' [84] = m84 at *
      have hml := mvE_len L
      (repeat' ((conv => whnf); first | refine CondVC.t ?_ | refine CondVC.f ?_ | refine CondVC.dec (fun h => ?_) (fun h => ?_) | refine CondVC.ndec (fun h => ?_) (fun h => ?_) | refine CondVC.mk (fun h => ?_) (fun h => ?_) | refine ArVC.i64 (by first | omega | (simp only; omega)) ?_ | refine SideVC.mk (by first | omega | decide | (simp only; omega) | (simp [slS]; done) | (simp [slS]; omega) | (simp only [byteE_len, mvE_len, strE_len, intE_len, esC_len, List.length_cons, List.length_nil, List.length_append, List.length_replicate, List.length_set, Int.toNat_natCast, and_true] at *; omega)) ?_ | refine LoopN.go ?_ | exact trivial | refine AltVC.mk ?_ ?_ | refine HeldVC.mk rfl ?_ | refine CallVC.res [] rfl h70 rfl ?_ | refine CallVC.res [] rfl h84 rfl ?_ | refine RestVC2.nestBuild2 tt_ok 45 2 rfl rfl rfl rfl rfl rfl rfl rfl ?_ | refine CallVC.res [24, 2101, 2102] rfl hc rfl ?_ | refine OpVC.more tt_ok ?_ | refine RestVC.ext tt_ok ?_)); all_goals (conv => whnf)
      all_goals try (exfalso; simp_all; done)
      refine LoopVC.mk (G := Nat × List (C × V)) (fun γ => ⟨[(27, .v (i64 γ.1)), (26, .v (i64 L.length)), (25, .v (.c (.sl 2103))), (7, .v (.c (.str out))), (6, .v (.c (.ptr 6 0))), (1, .v (.c (.str v))), (0, .v (.c (.str w')))],
          [(2103, .sl 45 2 (mvE L)), (6, .box 52 [.str v, .mp 2000]), (2000, .ext (.mp none γ.2))]⟩)
        (fun γ => γ.1 ≤ L.length ∧ okWays v γ.2 ∧ ∀ j (hj : j < L.length), j < γ.1 → decide (0 < playsF v (madeF w' L[j])) = false) (fun γ => L.length - γ.1) (0, es) ⟨Nat.zero_le _, hes, fun j hj h => absurd h (Nat.not_lt_zero _)⟩ (Sub.mk [] _ ⟨rfl, by rw [hml]; rfl, rfl, rfl, rfl, rfl, rfl, trivial⟩ rfl rfl) ?_
      rintro ⟨k, es⟩ ⟨hk, hes, hno⟩
      simp only at hk hes hno
      by_cases hkl : k < L.length
      · have hmem := List.getElem_mem hkl
        have g1 : (mvE L)[(k : Int).toNat]? = some (mvC L[k]) := by rw [Int.toNat_natCast]; exact mvE_get hkl
        have h6 := hmk _ hmem
        have h7 := hfr _ hmem es hes
        rw [hwq _ hmem] at h7
        have hfk := hfind k hkl
        have hwk := hway _ hmem
        have hok1 := hone _ hmem
        have hsl := sign_slice (hin _ hmem).1
        have hml2 := madeF_len w' L[k]
        obtain ⟨i1, i2, i3⟩ := hin _ hmem
        have hst := hstep L[k]
        generalize hLk : L[k] = m at *
        by_cases hq : 0 < playsF v (madeF w' m)
        · have hst := hst (hfk (decide_eq_true hq) hno)
          rw [hst] at hout
          have hto : out ++ slS w' m.1.toNat (m.1 + 1).toNat = out ++ [sgnF w' m] := by rw [hsl]
          obtain ⟨u, hu⟩ : ∃ u, u = madeF w' m := ⟨_, rfl⟩
          rw [← hu] at h6 h7 hwk hok1 hml2 hout hq
          obtain ⟨q, hqe⟩ : ∃ q, q = playsF v u := ⟨_, rfl⟩
          rw [← hqe] at h7
          (repeat' ((conv => whnf); first | refine CondVC.t ?_ | refine CondVC.f ?_ | refine CondVC.dec (fun h => ?_) (fun h => ?_) | refine CondVC.ndec (fun h => ?_) (fun h => ?_) | refine CondVC.mk (fun h => ?_) (fun h => ?_) | refine ArVC.i64 (by first | omega | (simp only; omega)) ?_ | refine SideVC.mk (by first | omega | decide | (simp only; omega) | (simp [slS]; done) | (simp [slS]; omega) | (simp only [byteE_len, mvE_len, strE_len, intE_len, esC_len, List.length_cons, List.length_nil, List.length_append, List.length_replicate, List.length_set, Int.toNat_natCast, and_true] at *; omega)) ?_ | refine LoopN.go ?_ | exact trivial | refine AltVC.mk ?_ ?_ | refine HeldVC.mk rfl ?_ | refine LoadVC.mk _ g1 ?_ | refine SideVC.mk (by rw [hml]; omega) ?_ | refine CallVC.pure h6 rfl ?_ | (refine CallVC.ex [2000] rfl h7 ?_; intro es2 hes2; refine ⟨rfl, ?_⟩) | refine OpVC.more tt_ok ?_ | refine RestVC.ext tt_ok ?_)); all_goals (conv => whnf)
          all_goals first
            | (exfalso; omega)
            | exact ⟨(u, out ++ [sgnF w' m], es2), ⟨by simp only; omega, hok1, hq, by simp only [List.append_assoc]; exact hout, hes2⟩, hwk, Sub.mk [] _ ⟨congrArg (fun z => some (E.v (.c (.str z)))) hto, rfl, rfl, rfl, trivial⟩ rfl rfl⟩
        · obtain ⟨u, hu⟩ : ∃ u, u = madeF w' m := ⟨_, rfl⟩
          rw [← hu] at h6 h7 hq
          obtain ⟨q, hqe⟩ : ∃ q, q = playsF v u := ⟨_, rfl⟩
          rw [← hqe] at h7
          (repeat' ((conv => whnf); first | refine CondVC.t ?_ | refine CondVC.f ?_ | refine CondVC.dec (fun h => ?_) (fun h => ?_) | refine CondVC.ndec (fun h => ?_) (fun h => ?_) | refine CondVC.mk (fun h => ?_) (fun h => ?_) | refine ArVC.i64 (by first | omega | (simp only; omega)) ?_ | refine SideVC.mk (by first | omega | decide | (simp only; omega) | (simp [slS]; done) | (simp [slS]; omega) | (simp only [byteE_len, mvE_len, strE_len, intE_len, esC_len, List.length_cons, List.length_nil, List.length_append, List.length_replicate, List.length_set, Int.toNat_natCast, and_true] at *; omega)) ?_ | refine LoopN.go ?_ | exact trivial | refine AltVC.mk ?_ ?_ | refine HeldVC.mk rfl ?_ | refine LoadVC.mk _ g1 ?_ | refine SideVC.mk (by rw [hml]; omega) ?_ | refine CallVC.pure h6 rfl ?_ | (refine CallVC.ex [2000] rfl h7 ?_; intro es2 hes2; refine ⟨rfl, ?_⟩) | refine OpVC.more tt_ok ?_ | refine RestVC.ext tt_ok ?_)); all_goals (conv => whnf)
          all_goals first
            | (exfalso; omega)
            | exact ⟨(k + 1, es2), ⟨by omega, hes2, fun j hj hjk => by
                by_cases e : j = k
                · subst e; rw [hLk, ← hu]; exact decide_eq_false hq
                · exact hno j hj (by omega)⟩, by simp only; omega, Sub.mk [] _ ⟨rfl, rfl, rfl, rfl, rfl, rfl, rfl, trivial⟩ rfl rfl⟩
      · exact (hnone fun j hj => hno j hj (by omega)).elim
  · rw [if_neg hp, decide_eq_false hp]
    have h0 : playsF v w = 0 := by omega
    rw [h0] at f1
    refine Spec.of_wpx tt_ok Tryd.func31 (by kernel_rfl) rfl ?_
    (repeat' ((conv => whnf); first | refine CondVC.t ?_ | refine CondVC.f ?_ | refine CondVC.dec (fun h => ?_) (fun h => ?_) | refine CondVC.ndec (fun h => ?_) (fun h => ?_) | refine CondVC.mk (fun h => ?_) (fun h => ?_) | refine ArVC.i64 (by first | omega | (simp only; omega)) ?_ | refine SideVC.mk (by first | omega | decide | (simp only; omega) | (simp [slS]; done) | (simp [slS]; omega) | (simp only [byteE_len, mvE_len, strE_len, intE_len, esC_len, List.length_cons, List.length_nil, List.length_append, List.length_replicate, List.length_set, Int.toNat_natCast, and_true] at *; omega)) ?_ | refine LoopN.go ?_ | exact trivial | refine AltVC.mk ?_ ?_ | refine HeldVC.mk rfl ?_ | refine CallVC.res [] rfl t1 rfl ?_ | (refine CallVC.ex [2000] rfl f1 ?_; intro e1 he1; refine ⟨rfl, ?_⟩) | refine OpVC.more tt_ok ?_ | refine RestVC.ext tt_ok ?_)); all_goals (conv => whnf)
    all_goals first
      | (exfalso; omega)
      | exact RetVC.res rfl rfl

/-! ### The reference's -/
theorem pick_frog {g w : Tx} {a : Mv} (h : movesF w [70] = [a]) (hp : 0 < playsF g (madeF w a)) : pickW g w = some a := by
  unfold pickW woL
  rw [h, List.cons_append, List.find?_cons, decide_eq_true hp]
theorem pick_toad {g w : Tx} {m : Mv} (hg : w.count 46 = 1) (hm : pickW g w = some m) (h : movesF w [70] = [] ∨ ∃ a, movesF w [70] = [a] ∧ ¬ 0 < playsF g (madeF w a)) : movesF w [84] = [m] := by
  have h1 := (pickW_mem hm).2
  have h2 : m ∈ woL w := woL_mem.2 (pickW_mem hm).1
  unfold woL at h2
  have h3 : m ∉ movesF w [70] := by
    rcases h with h | ⟨a, h, hn⟩
    · rw [h]; simp
    · rw [h]
      intro hc
      simp only [List.mem_singleton] at hc
      rw [hc] at h1
      exact hn h1
  have h4 := (List.mem_append.1 h2).resolve_left h3
  rcases one_kind 84 hg with e | ⟨b, e⟩
  · rw [e] at h4; cases h4
  · rw [e] at h4 ⊢
    simp only [List.mem_singleton] at h4
    rw [h4]
theorem woFirst_spec (w v : Tx) (hok : w.all okCh = true) (hw : w.length ≤ 10) (hg : w.count 46 = 1) (hp : 0 < playsF v w) : Spec Tryd.prog 29 [.c (.str w), .c (.str v)] []
    (isRes [.c (.str (wfirF v w))] []) := by
  obtain ⟨tot, htot⟩ : ∃ tot, tot = wfirF v w := ⟨_, rfl⟩
  rw [← htot]
  have htl : tot.length ≤ 100 := by
    have h1 := wfirF_len v _ w rfl
    have h2 := wayF_le w
    have h3 : w.length * w.length ≤ 10 * 10 := Nat.mul_le_mul hw hw
    rw [htot]; omega
  refine Spec.of_wpx tt_ok Tryd.func29 (by kernel_rfl) rfl ?_
  (repeat' ((conv => whnf); first | refine CondVC.t ?_ | refine CondVC.f ?_ | refine CondVC.dec (fun h => ?_) (fun h => ?_) | refine CondVC.ndec (fun h => ?_) (fun h => ?_) | refine CondVC.mk (fun h => ?_) (fun h => ?_) | refine ArVC.i64 (by first | omega | (simp only; omega)) ?_ | refine SideVC.mk (by first | omega | decide | (simp only; omega) | (simp [slS]; done) | (simp [slS]; omega) | (simp only [byteE_len, mvE_len, strE_len, intE_len, esC_len, List.length_cons, List.length_nil, List.length_append, List.length_replicate, List.length_set, Int.toNat_natCast, and_true] at *; omega)) ?_ | refine LoopN.go ?_ | exact trivial | refine AltVC.mk ?_ ?_ | refine HeldVC.mk rfl ?_ | refine OpVC.more tt_ok ?_ | refine RestVC.ext tt_ok ?_)); all_goals (conv => whnf)
  refine LoopVC.mk (G := Tx × Tx) (fun γ => ⟨[(5, .v (.c (.str γ.2))), (1, .v (.c (.str v))), (0, .v (.c (.str γ.1)))], []⟩)
    (fun γ => γ.1.all okCh = true ∧ γ.1.length ≤ 10 ∧ γ.1.count 46 = 1 ∧ 0 < playsF v γ.1 ∧ γ.2 ++ wfirF v γ.1 = tot) (fun γ => wayF γ.1) (w, []) ⟨hok, hw, hg, hp, by rw [htot]; rfl⟩ (Sub.mk [] _ ⟨rfl, rfl, rfl, trivial⟩ rfl rfl) ?_
  rintro ⟨w', out⟩ ⟨hwok, hwl, hwg, hwp, hout⟩
  simp only at hwok hwl hwg hwp hout
  have hol : out.length ≤ 100 := by have := congrArg List.length hout; simp at this; omega
  by_cases hwv : w' = v
  · have e1 : tot = out := by rw [← hout, hwv, wfirF_self, List.append_nil]
    rw [e1]
    (repeat' ((conv => whnf); first | refine CondVC.t ?_ | refine CondVC.f ?_ | refine CondVC.dec (fun h => ?_) (fun h => ?_) | refine CondVC.ndec (fun h => ?_) (fun h => ?_) | refine CondVC.mk (fun h => ?_) (fun h => ?_) | refine ArVC.i64 (by first | omega | (simp only; omega)) ?_ | refine SideVC.mk (by first | omega | decide | (simp only; omega) | (simp [slS]; done) | (simp [slS]; omega) | (simp only [byteE_len, mvE_len, strE_len, intE_len, esC_len, List.length_cons, List.length_nil, List.length_append, List.length_replicate, List.length_set, Int.toNat_natCast, and_true] at *; omega)) ?_ | refine LoopN.go ?_ | exact trivial | refine AltVC.mk ?_ ?_ | refine HeldVC.mk rfl ?_ | refine OpVC.more tt_ok ?_ | refine RestVC.ext tt_ok ?_)); all_goals (conv => whnf)
    all_goals first
      | (exfalso; simp_all; done)
      | exact RetVC.res rfl rfl
  · obtain ⟨mp, hmp⟩ := pickW_some hwv hwp
    have hstep := wfirF_step hwv hmp
    obtain ⟨hb, hpp⟩ := pickW_mem hmp
    have hwk := way_made hb
    have hok1 := one_made hwg hb
    have hml2 := madeF_len w' mp
    have hF := liMoves_spec w' false true hwok (by omega)
    rw [liMoves_eq hwok, show kindsF false true = [70] from rfl] at hF
    have hF := Spec.ren [(1001, 2101)] [(2101, 1001)] hF rfl rfl rfl
    have hT := liMoves_spec w' true false hwok (by omega)
    rw [liMoves_eq hwok, show kindsF true false = [84] from rfl] at hT
    have hT := Spec.ren [(1001, 2102)] [(2102, 1001)] hT rfl rfl rfl
    have hin := movesF_in hb
    have hcok := okCh_made hwok (m := mp) (by have := hin.1; omega)
    have hmk := liMake_spec w' mp hin.1 hin.2.1 hin.2.2 (by omega)
    have haf := reAfter_spec (madeF w' mp) v hcok (by omega)
    have hge := after_pos.2 hpp
    rw [hstep] at hout
    by_cases hcase : movesF w' [70] = [mp]
    · have hsg : sgnF w' mp = 70 := kind_of (by rw [hcase]; simp)
      rw [hsg] at hout
      rw [hcase] at hF
      obtain ⟨u, hu⟩ : ∃ u, u = madeF w' mp := ⟨_, rfl⟩
      rw [← hu] at hmk haf hge hcok hwk hok1 hml2 hout hpp
      have g1 : (mvE [mp])[(0 : Int).toNat]? = some (mvC mp) := rfl
      obtain ⟨q, hqe⟩ : ∃ q, q = afterF u v := ⟨_, rfl⟩
      rw [← hqe] at haf hge
      (repeat' ((conv => whnf); first | refine CondVC.t ?_ | refine CondVC.f ?_ | refine CondVC.dec (fun h => ?_) (fun h => ?_) | refine CondVC.ndec (fun h => ?_) (fun h => ?_) | refine CondVC.mk (fun h => ?_) (fun h => ?_) | refine ArVC.i64 (by first | omega | (simp only; omega)) ?_ | refine SideVC.mk (by first | omega | decide | (simp only; omega) | (simp [slS]; done) | (simp [slS]; omega) | (simp only [byteE_len, mvE_len, strE_len, intE_len, esC_len, List.length_cons, List.length_nil, List.length_append, List.length_replicate, List.length_set, Int.toNat_natCast, and_true] at *; omega)) ?_ | refine LoopN.go ?_ | exact trivial | refine AltVC.mk ?_ ?_ | refine HeldVC.mk rfl ?_ | refine LoopVC.rounds 3 ?_ | refine LoadVC.mk _ rfl ?_ | refine CallVC.res [] rfl hF rfl ?_ | refine CallVC.pure hmk rfl ?_ | refine CallVC.pure haf rfl ?_ | refine OpVC.more tt_ok ?_ | refine RestVC.ext tt_ok ?_)); all_goals (conv => whnf)
      all_goals first
        | (exfalso; omega)
        | exact ⟨(u, out ++ [70]), ⟨hcok, by simp only; omega, hok1, hpp, by simp only [List.append_assoc]; exact hout⟩, hwk, Sub.mk [] _ ⟨rfl, rfl, rfl, trivial⟩ rfl rfl⟩
        | (exfalso; simp_all; done)
    · have h84 : movesF w' [70] = [] ∨ ∃ a, movesF w' [70] = [a] ∧ ¬ 0 < playsF v (madeF w' a) := by
        rcases one_kind 70 hwg with e | ⟨a, e⟩
        · exact .inl e
        · refine .inr ⟨a, e, fun hc => ?_⟩
          have := pick_frog e hc
          rw [this] at hmp
          exact hcase (by rw [e, Option.some.inj hmp])
      have ht := pick_toad hwg hmp h84
      have hsg : sgnF w' mp = 84 := kind_of (by rw [ht]; simp)
      rw [hsg] at hout
      rw [ht] at hT
      have g1 : (mvE [mp])[(0 : Int).toNat]? = some (mvC mp) := rfl
      rcases h84 with e70 | ⟨a, e70, hna⟩
      · rw [e70] at hF
        obtain ⟨u, hu⟩ : ∃ u, u = madeF w' mp := ⟨_, rfl⟩
        rw [← hu] at hmk haf hge hcok hwk hok1 hml2 hout hpp
        obtain ⟨q, hqe⟩ : ∃ q, q = afterF u v := ⟨_, rfl⟩
        rw [← hqe] at haf hge
        (repeat' ((conv => whnf); first | refine CondVC.t ?_ | refine CondVC.f ?_ | refine CondVC.dec (fun h => ?_) (fun h => ?_) | refine CondVC.ndec (fun h => ?_) (fun h => ?_) | refine CondVC.mk (fun h => ?_) (fun h => ?_) | refine ArVC.i64 (by first | omega | (simp only; omega)) ?_ | refine SideVC.mk (by first | omega | decide | (simp only; omega) | (simp [slS]; done) | (simp [slS]; omega) | (simp only [byteE_len, mvE_len, strE_len, intE_len, esC_len, List.length_cons, List.length_nil, List.length_append, List.length_replicate, List.length_set, Int.toNat_natCast, and_true] at *; omega)) ?_ | refine LoopN.go ?_ | exact trivial | refine AltVC.mk ?_ ?_ | refine HeldVC.mk rfl ?_ | refine LoopVC.rounds 3 ?_ | refine LoadVC.mk _ rfl ?_ | refine CallVC.res [] rfl hF rfl ?_ | refine CallVC.res [] rfl hT rfl ?_ | refine CallVC.pure hmk rfl ?_ | refine CallVC.pure haf rfl ?_ | refine OpVC.more tt_ok ?_ | refine RestVC.ext tt_ok ?_)); all_goals (conv => whnf)
        all_goals first
          | (exfalso; omega)
          | exact ⟨(u, out ++ [84]), ⟨hcok, by simp only; omega, hok1, hpp, by simp only [List.append_assoc]; exact hout⟩, hwk, Sub.mk [] _ ⟨rfl, rfl, rfl, trivial⟩ rfl rfl⟩
          | (exfalso; simp_all; done)
      · rw [e70] at hF
        have hba : a ∈ movesF w' both := woL_mem.1 (List.mem_append_left _ (by rw [e70]; simp))
        have hin2 := movesF_in hba
        have hcok2 := okCh_made hwok (m := a) (by have := hin2.1; omega)
        have hml3 := madeF_len w' a
        have hmk2 := liMake_spec w' a hin2.1 hin2.2.1 hin2.2.2 (by omega)
        have haf2 := reAfter_spec (madeF w' a) v hcok2 (by omega)
        have hlt : ¬ 0 ≤ afterF (madeF w' a) v := fun h => hna (after_pos.1 h)
        have g2 : (mvE [a])[(0 : Int).toNat]? = some (mvC a) := rfl
        obtain ⟨u, hu⟩ : ∃ u, u = madeF w' mp := ⟨_, rfl⟩
        rw [← hu] at hmk haf hge hcok hwk hok1 hml2 hout hpp
        obtain ⟨q, hqe⟩ : ∃ q, q = afterF u v := ⟨_, rfl⟩
        rw [← hqe] at haf hge
        generalize madeF w' a = u2 at *
        generalize afterF u2 v = q2 at *
        (repeat' ((conv => whnf); first | refine CondVC.t ?_ | refine CondVC.f ?_ | refine CondVC.dec (fun h => ?_) (fun h => ?_) | refine CondVC.ndec (fun h => ?_) (fun h => ?_) | refine CondVC.mk (fun h => ?_) (fun h => ?_) | refine ArVC.i64 (by first | omega | (simp only; omega)) ?_ | refine SideVC.mk (by first | omega | decide | (simp only; omega) | (simp [slS]; done) | (simp [slS]; omega) | (simp only [byteE_len, mvE_len, strE_len, intE_len, esC_len, List.length_cons, List.length_nil, List.length_append, List.length_replicate, List.length_set, Int.toNat_natCast, and_true] at *; omega)) ?_ | refine LoopN.go ?_ | exact trivial | refine AltVC.mk ?_ ?_ | refine HeldVC.mk rfl ?_ | refine LoopVC.rounds 3 ?_ | refine LoadVC.mk _ rfl ?_ | refine CallVC.res [] rfl hF rfl ?_ | refine CallVC.res [] rfl hT rfl ?_ | refine CallVC.pure hmk rfl ?_ | refine CallVC.pure haf rfl ?_ | refine CallVC.pure hmk2 rfl ?_ | refine CallVC.pure haf2 rfl ?_ | refine OpVC.more tt_ok ?_ | refine RestVC.ext tt_ok ?_)); all_goals (conv => whnf)
        all_goals first
          | (exfalso; omega)
          | exact ⟨(u, out ++ [84]), ⟨hcok, by simp only; omega, hok1, hpp, by simp only [List.append_assoc]; exact hout⟩, hwk, Sub.mk [] _ ⟨rfl, rfl, rfl, trivial⟩ rfl rfl⟩
          | (exfalso; simp_all; done)
end Go.Proofs.YtblihaicbhdbdaaDoor.X
