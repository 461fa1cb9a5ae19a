/- Whether a line is live: the program's and the reference's. No condition beyond the statement's. -/
import Derived.Test.YtnekgpjgekakkaaDoorLive
import Derived.Test.YtnekgpjgekakkaaDoorWays
import Derived.Test.YtnekgpjgekakkaaDoorEdge
namespace Go.Proofs.YtnekgpjgekakkaaDoor.X
open Go.Proofs
set_option maxRecDepth 100000
set_option linter.unusedVariables false
set_option linter.unusedSimpArgs false

/-- The first line of a line's signs. -/
def headF (w : Tx) : Tx := firstF (w.count 84) (w.count 46) (w.count 70)
theorem headF_last (w : Tx) : lastF (headF w) = lastF w := by
  have h1 : (headF w).count 84 = w.count 84 := by simp [headF, firstF, rep_one, List.count_append, List.count_replicate]
  have h2 : (headF w).count 46 = w.count 46 := by simp [headF, firstF, rep_one, List.count_append, List.count_replicate]
  have h3 : (headF w).count 70 = w.count 70 := by simp [headF, firstF, rep_one, List.count_append, List.count_replicate]
  unfold lastF
  rw [h1, h2, h3]
theorem headF_len (w : Tx) : (headF w).length ≤ w.length := by
  have := count3_le w
  unfold headF
  rw [firstF_len]; omega
def liveB (w : Tx) : Bool := decide (0 < wp (lastF w) w) && decide (0 < wp w (headF w))
theorem live_reach {f : Tx} (hf : f.length ≤ 8) (hok : f.all okCh = true) : ∀ {k : Nat} {w : Tx}, Reach f w k → liveT w = true → liveT f = true
  | 0, w, h, hl => by rw [show w = f from h] at hl; exact hl
  | k + 1, w, ⟨u, hu, m, hm, e⟩, hl => by
    subst e
    have hul : u.length ≤ 8 := by obtain ⟨_, h2, _⟩ := reach_ok hok hu; omega
    exact live_reach hf hok hu (live_back hul hm hl)
theorem liveB_iff {w : Tx} (hw : w.length ≤ 8) : liveB w = true ↔ liveT w = true ∧ 0 < playsF w (headF w) := by
  unfold liveB liveT
  rw [Bool.and_eq_true, decide_eq_true_eq, decide_eq_true_eq, wp_few (g := w) (by have := headF_len w; omega : (headF w).length ≤ 8)]
  constructor
  · rintro ⟨a, b⟩; exact ⟨a, by omega⟩
  · rintro ⟨a, b⟩; exact ⟨a, by omega⟩
def okLv (f : Tx) (γ : Nat × Wy) : Prop := ((0 < wp (lastF f) f → (∀ j, j < γ.1 → layL f j ≠ []) ∧ layL f γ.1 = []) ∧ (¬ 0 < wp (lastF f) f → γ.1 = 0)) ∧ okEn γ.2
theorem okLv_yes {w : Tx} {γ : Nat × Wy} (hw : w.length ≤ 8) (h : okLv (headF w) γ) {k : Nat} (hk : k < γ.1) (hm : w ∈ layL (headF w) k) : liveB w = true := by
  have hl : liveT (headF w) = true := by
    apply Classical.byContradiction
    intro hn
    unfold liveT at hn
    rw [decide_eq_true_eq] at hn
    have h0 : γ.1 = 0 := h.1.2 hn
    rw [h0] at hk
    exact Nat.not_lt_zero _ hk
  rw [liveB_iff hw]
  have hf8 : (headF w).length ≤ 8 := by have := headF_len w; omega
  exact (live_lay hf8 (firstF_ok _ _ _) hl (headF_last w).symm).1 ⟨k, hm⟩
theorem okLv_no {w : Tx} {γ : Nat × Wy} (hw : w.length ≤ 8) (h : okLv (headF w) γ) (hn : ∀ k, k < γ.1 → w ∉ layL (headF w) k) : liveB w = false := by
  apply Bool.eq_false_iff.2
  intro hb
  rw [liveB_iff hw] at hb
  have hf8 : (headF w).length ≤ 8 := by have := headF_len w; omega
  have hl : liveT (headF w) = true := by
    have : ∃ k, w ∈ layF (headF w) k := by
      apply Classical.byContradiction
      intro hc
      have := hb.2
      rw [plays_none fun k hk => hc ⟨k, hk⟩] at this
      omega
    obtain ⟨k, hk⟩ := this
    exact live_reach hf8 (firstF_ok _ _ _) (lay_mem.1 hk) hb.1
  obtain ⟨k, hk⟩ := (live_lay hf8 (firstF_ok _ _ _) hl (headF_last w).symm).2 hb
  have hq : 0 < wp (lastF (headF w)) (headF w) := by unfold liveT at hl; rwa [decide_eq_true_eq] at hl
  obtain ⟨_, h2⟩ := h.1.1 hq
  by_cases hlt : k < γ.1
  · exact hn k hlt hk
  · rw [layL_stop h2 (by omega)] at hk; cases hk

theorem swLive_spec (a b c : Nat) (h : a + b + c ≤ 8) (x0 : Wy) (hx0 : okEn x0) : Spec Tryd.prog 70 [.c (.ptr 1000 0), i64 a, i64 b, i64 c] (enM x0)
    (exRes (okLv (firstF a b c)) (fun _ => [.c (.sl 1021)])
      (fun γ => [(1021, .ext (.nest 40 9 1 (nestL (firstF a b c) γ.1) [])), (1000, .box 43 [.sl 1011, .sl 1012]), (1011, .sl 9 1 (strE γ.2.1)), (1012, .sl 3 1 (intE γ.2.2))])) := by
  have h1 := liFirst_spec a b c (by omega) (by omega) (by omega)
  have hl := firstF_len a b c
  have hok := firstF_ok a b c
  have h2 := ends_all (firstF a b c) (by omega) hok x0 hx0
  have h3 := fun x hx => swReach_spec (firstF a b c) hok (by omega) x hx
  have hn0 : nestL (firstF a b c) 0 = [] := rfl
  have hnn : 0 ≤ wp (lastF (firstF a b c)) (firstF a b c) := by rw [wp_few (by omega)]; omega
  unfold okLv
  generalize firstF a b c = f at *
  unfold enM enR at *
  generalize wp (lastF f) f = q at *
  have h2 := Spec.renE [(1011, 3011), (1012, 3012)] [(3011, 1011), (3012, 1012)] h2 (fun _ => rfl) (fun _ => rfl) rfl
  have h3 := fun x hx => Spec.renE [(1001, 3011), (1002, 3012), (1011, 3021), (1012, 3022)] [(3011, 1001), (3012, 1002), (3021, 1011), (3022, 1012)] (h3 x hx) (fun _ => rfl) (fun _ => rfl) rfl
  refine Spec.of_wpx tt_ok Tryd.func70 (by kernel_rfl) rfl ?_
  by_cases hq : q = 0
  · (repeat' ((conv => whnf); first | refine CondVC.t ?_ | refine CondVC.f ?_ | refine CondVC.dec (fun h => ?_) (fun h => ?_) | refine CondVC.ndec (fun h => ?_) (fun h => ?_) | refine CondVC.mk (fun h => ?_) (fun h => ?_) | refine ArVC.i64 (by first | omega | (simp only; omega)) ?_ | refine SideVC.mk (by first | omega | decide | (simp only; omega) | (simp [slS]; done) | (simp [slS]; omega) | (simp only [byteE_len, mvE_len, strE_len, intE_len, esC_len, List.length_cons, List.length_nil, List.length_append, List.length_replicate, List.length_set, Int.toNat_natCast, and_true] at *; omega)) ?_ | refine LoopN.go ?_ | exact trivial | refine AltVC.mk ?_ ?_ | refine HeldVC.mk rfl ?_ | refine CallVC.pure h1 rfl ?_ | (refine CallVC.ex [1000, 1001, 1002] rfl h2 ?_; intro x hx; refine ⟨rfl, ?_⟩) | refine OpVC.more tt_ok ?_ | refine RestVC.ext tt_ok ?_)); all_goals (conv => whnf)
    all_goals first
      | (exfalso; omega)
      | exact RetVC.nil 1021 40 1 [.c (.sl 1021)] [(1000, .box 43 [.sl 3011, .sl 3012]), (3011, .sl 9 1 (strE x.1)), (3012, .sl 3 1 (intE x.2))] rfl rfl rfl
          (RetVC.toNest 1021 9 1 rfl (RetVC.ren [(1011, 3011), (1012, 3012)] [.c (.sl 1021)] [(1021, .ext (.nest 40 9 1 [] [])), (1000, .box 43 [.sl 1011, .sl 1012]), (1011, .sl 9 1 (strE x.1)), (1012, .sl 3 1 (intE x.2))] rfl rfl rfl ⟨(0, x), ⟨⟨fun hc => by omega, fun _ => rfl⟩, hx.1⟩, rfl, by simp only [hn0]⟩))
  · (repeat' ((conv => whnf); first | refine CondVC.t ?_ | refine CondVC.f ?_ | refine CondVC.dec (fun h => ?_) (fun h => ?_) | refine CondVC.ndec (fun h => ?_) (fun h => ?_) | refine CondVC.mk (fun h => ?_) (fun h => ?_) | refine ArVC.i64 (by first | omega | (simp only; omega)) ?_ | refine SideVC.mk (by first | omega | decide | (simp only; omega) | (simp [slS]; done) | (simp [slS]; omega) | (simp only [byteE_len, mvE_len, strE_len, intE_len, esC_len, List.length_cons, List.length_nil, List.length_append, List.length_replicate, List.length_set, Int.toNat_natCast, and_true] at *; omega)) ?_ | refine LoopN.go ?_ | exact trivial | refine AltVC.mk ?_ ?_ | refine HeldVC.mk rfl ?_ | refine CallVC.pure h1 rfl ?_ | (refine CallVC.ex [1000, 1001, 1002] rfl h2 ?_; intro x hx; refine ⟨rfl, ?_⟩; have h3 := h3 x hx.1) | (refine CallVC.ex [1000, 3011, 3012] rfl h3 ?_; intro γ hγ; refine ⟨rfl, ?_⟩) | refine OpVC.more tt_ok ?_ | refine RestVC.ext tt_ok ?_)); all_goals (conv => whnf)
    all_goals first
      | (exfalso; omega)
      | exact RetVC.ren [(1011, 3021), (1012, 3022)] [.c (.sl 1021)] [(1021, .ext (.nest 40 9 1 (nestL f γ.1) [])), (1000, .box 43 [.sl 1011, .sl 1012]), (1011, .sl 9 1 (strE γ.2.1)), (1012, .sl 3 1 (intE γ.2.2))] rfl rfl rfl ⟨γ, ⟨⟨fun _ => ⟨hγ.1, hγ.2.1⟩, fun hc => by omega⟩, hγ.2.2⟩, rfl, rfl⟩

theorem isLive_spec (w : Tx) (hw : w.length ≤ 8) : Spec Tryd.prog 42 [.c (.str w)] [] (isRes [vb (liveB w)] []) := by
  have h1 := implCount_spec w
  have h2 := implLast_spec w (by omega)
  have hc := count3_le w
  have h3 := implFirst_spec (w.count 84) (w.count 46) (w.count 70) (by omega) (by omega) (by omega)
  have hhl := headF_len w
  have t1 := Spec.ren [(1000, 2000)] [(2000, 1000)] (to_spec (lastF w)) rfl rfl rfl
  have t2 := Spec.ren [(1000, 4000)] [(4000, 1000)] (to_spec w) rfl rfl rfl
  have f1 := Spec.renE [(1000, 2000)] [(2000, 1000)] (ways_all (lastF w) w (by omega) _ (okWays_one (lastF w))) (fun _ => rfl) (fun _ => rfl) rfl
  have f2 := Spec.renE [(1000, 4000)] [(4000, 1000)] (ways_all w (headF w) (by omega) _ (okWays_one w)) (fun _ => rfl) (fun _ => rfl) rfl
  unfold liveB
  rw [show firstF (w.count 84) (w.count 46) (w.count 70) = headF w from rfl] at h3
  generalize headF w = f at *
  generalize lastF w = g at *
  generalize wp w f = q2 at *
  generalize wp g w = q1 at *
  generalize w.count 84 = a at *
  generalize w.count 46 = b at *
  generalize w.count 70 = c at *
  refine Spec.of_wpx tt_ok Tryd.func42 (by kernel_rfl) rfl ?_
  by_cases hq : 0 < q1
  · rw [decide_eq_true hq]
    (repeat' ((conv => whnf); first | refine CondVC.t ?_ | refine CondVC.f ?_ | refine CondVC.dec (fun h => ?_) (fun h => ?_) | refine CondVC.ndec (fun h => ?_) (fun h => ?_) | refine CondVC.mk (fun h => ?_) (fun h => ?_) | refine ArVC.i64 (by first | omega | (simp only; omega)) ?_ | refine SideVC.mk (by first | omega | decide | (simp only; omega) | (simp [slS]; done) | (simp [slS]; omega) | (simp only [byteE_len, mvE_len, strE_len, intE_len, esC_len, List.length_cons, List.length_nil, List.length_append, List.length_replicate, List.length_set, Int.toNat_natCast, and_true] at *; omega)) ?_ | refine LoopN.go ?_ | exact trivial | refine AltVC.mk ?_ ?_ | refine HeldVC.mk rfl ?_ | refine CallVC.pure h1 rfl ?_ | refine CallVC.pure h2 rfl ?_ | refine CallVC.pure h3 rfl ?_ | refine CallVC.res [] rfl t1 rfl ?_ | refine CallVC.res [] rfl t2 rfl ?_ | (refine CallVC.ex [2000] rfl f1 ?_; intro e1 he1; refine ⟨rfl, ?_⟩) | (refine CallVC.ex [4000] rfl f2 ?_; intro e2 he2; refine ⟨rfl, ?_⟩) | refine OpVC.more tt_ok ?_ | refine RestVC.ext tt_ok ?_)); all_goals (conv => whnf)
    all_goals first
      | (exfalso; omega)
      | exact RetVC.res rfl rfl
  · rw [decide_eq_false hq]
    (repeat' ((conv => whnf); first | refine CondVC.t ?_ | refine CondVC.f ?_ | refine CondVC.dec (fun h => ?_) (fun h => ?_) | refine CondVC.ndec (fun h => ?_) (fun h => ?_) | refine CondVC.mk (fun h => ?_) (fun h => ?_) | refine ArVC.i64 (by first | omega | (simp only; omega)) ?_ | refine SideVC.mk (by first | omega | decide | (simp only; omega) | (simp [slS]; done) | (simp [slS]; omega) | (simp only [byteE_len, mvE_len, strE_len, intE_len, esC_len, List.length_cons, List.length_nil, List.length_append, List.length_replicate, List.length_set, Int.toNat_natCast, and_true] at *; omega)) ?_ | refine LoopN.go ?_ | exact trivial | refine AltVC.mk ?_ ?_ | refine HeldVC.mk rfl ?_ | refine CallVC.pure h1 rfl ?_ | refine CallVC.pure h2 rfl ?_ | refine CallVC.pure h3 rfl ?_ | refine CallVC.res [] rfl t1 rfl ?_ | refine CallVC.res [] rfl t2 rfl ?_ | (refine CallVC.ex [2000] rfl f1 ?_; intro e1 he1; refine ⟨rfl, ?_⟩) | (refine CallVC.ex [4000] rfl f2 ?_; intro e2 he2; refine ⟨rfl, ?_⟩) | refine OpVC.more tt_ok ?_ | refine RestVC.ext tt_ok ?_)); all_goals (conv => whnf)
    all_goals first
      | (exfalso; omega)
      | exact RetVC.res rfl rfl
theorem line8_ok {w : Tx} (h : lineOf w 8 = true) : w.all okCh = true ∧ w.length ≤ 8 := by
  unfold lineOf at h
  simp only [Bool.and_eq_true, decide_eq_true_eq] at h
  exact ⟨h.2, by omega⟩
theorem line8_and (w : Tx) : (lineOf w 12 && decide ((w.length : Int) ≤ 8)) = lineOf w 8 := by
  unfold lineOf
  cases w.all okCh
  · simp
  · simp only [Bool.and_true]
    rw [← Bool.decide_and]
    exact decide_eq_decide.2 (by omega)
theorem swLine_spec (w : Tx) (hw : w.length ≤ 1099511627776) : Spec Tryd.prog 39 [.c (.str w)] [] (isRes [vb (lineOf w 8)] []) := by
  have h1 := liGood_spec w hw
  rw [← line8_and w]
  refine Spec.of_wpx tt_ok Tryd.func39 (by kernel_rfl) rfl ?_
  cases hl : lineOf w 12
  all_goals
    rw [hl] at h1
    (repeat' ((conv => whnf); first | refine CondVC.t ?_ | refine CondVC.f ?_ | refine CondVC.dec (fun h => ?_) (fun h => ?_) | refine CondVC.ndec (fun h => ?_) (fun h => ?_) | refine CondVC.mk (fun h => ?_) (fun h => ?_) | refine ArVC.i64 (by first | omega | (simp only; omega)) ?_ | refine SideVC.mk (by first | omega | decide | (simp only; omega) | (simp [slS]; done) | (simp [slS]; omega) | (simp only [byteE_len, mvE_len, strE_len, intE_len, esC_len, List.length_cons, List.length_nil, List.length_append, List.length_replicate, List.length_set, Int.toNat_natCast, and_true] at *; omega)) ?_ | refine LoopN.go ?_ | exact trivial | refine AltVC.mk ?_ ?_ | refine HeldVC.mk rfl ?_ | refine CallVC.pure h1 rfl ?_ | refine OpVC.more tt_ok ?_ | refine RestVC.ext tt_ok ?_)); all_goals (conv => whnf)
    all_goals exact RetVC.res rfl rfl
def isLiveF (w : Tx) : Bool := lineOf w 8 && liveB w
theorem implIsLive_spec (w : Tx) (hw : w.length ≤ 1099511627776) : Spec Tryd.prog 15 [.c (.str w)] [] (isRes [vb (isLiveF w), vb (lineOf w 8)] []) := by
  have h1 := isLineOf_spec w 8 hw
  unfold isLiveF
  refine Spec.of_wpx tt_ok Tryd.func15 (by kernel_rfl) rfl ?_
  cases hl : lineOf w 8 with
  | false =>
    rw [hl] at h1
    (repeat' ((conv => whnf); first | refine CondVC.t ?_ | refine CondVC.f ?_ | refine CondVC.dec (fun h => ?_) (fun h => ?_) | refine CondVC.ndec (fun h => ?_) (fun h => ?_) | refine CondVC.mk (fun h => ?_) (fun h => ?_) | refine ArVC.i64 (by first | omega | (simp only; omega)) ?_ | refine SideVC.mk (by first | omega | decide | (simp only; omega) | (simp [slS]; done) | (simp [slS]; omega) | (simp only [byteE_len, mvE_len, strE_len, intE_len, esC_len, List.length_cons, List.length_nil, List.length_append, List.length_replicate, List.length_set, Int.toNat_natCast, and_true] at *; omega)) ?_ | refine LoopN.go ?_ | exact trivial | refine AltVC.mk ?_ ?_ | refine HeldVC.mk rfl ?_ | refine CallVC.pure h1 rfl ?_ | refine OpVC.more tt_ok ?_ | refine RestVC.ext tt_ok ?_)); all_goals (conv => whnf)
    all_goals exact RetVC.res rfl rfl
  | true =>
    rw [hl] at h1
    have h2 := isLive_spec w (line8_ok hl).2
    generalize liveB w = b at *
    (repeat' ((conv => whnf); first | refine CondVC.t ?_ | refine CondVC.f ?_ | refine CondVC.dec (fun h => ?_) (fun h => ?_) | refine CondVC.ndec (fun h => ?_) (fun h => ?_) | refine CondVC.mk (fun h => ?_) (fun h => ?_) | refine ArVC.i64 (by first | omega | (simp only; omega)) ?_ | refine SideVC.mk (by first | omega | decide | (simp only; omega) | (simp [slS]; done) | (simp [slS]; omega) | (simp only [byteE_len, mvE_len, strE_len, intE_len, esC_len, List.length_cons, List.length_nil, List.length_append, List.length_replicate, List.length_set, Int.toNat_natCast, and_true] at *; omega)) ?_ | refine LoopN.go ?_ | exact trivial | refine AltVC.mk ?_ ?_ | refine HeldVC.mk rfl ?_ | refine CallVC.pure h1 rfl ?_ | refine CallVC.pure h2 rfl ?_ | refine OpVC.more tt_ok ?_ | refine RestVC.ext tt_ok ?_)); all_goals (conv => whnf)
    all_goals exact RetVC.res rfl rfl
theorem swIsLive_spec (w : Tx) (hok : w.all okCh = true) (hw : w.length ≤ 8) : Spec Tryd.prog 40 [.c (.ptr 1000 0), .c (.str w)] (enM ([], []))
    (exRes okEn (fun _ => [vb (liveB w)]) (fun x => [(1000, .box 43 [.sl 1011, .sl 1012]), (1011, .sl 9 1 (strE x.1)), (1012, .sl 3 1 (intE x.2))])) := by
  have hc := count3_le w
  have c1 := liCount_spec w 84 (by omega)
  have c2 := liCount_spec w 46 (by omega)
  have c3 := liCount_spec w 70 (by omega)
  have h2 := swLive_spec (w.count 84) (w.count 46) (w.count 70) (by omega) ([], []) okEn_nil
  have hyes := fun γ (h : okLv (headF w) γ) k hk hm => okLv_yes hw h (k := k) hk hm
  have hnot := fun γ (h : okLv (headF w) γ) hn => okLv_no hw h hn
  have hfl := fun k => layL_few (firstF_ok (w.count 84) (w.count 46) (w.count 70)) (by have := headF_len w; unfold headF at this; omega) k
  have hoE := fun γ (h : okLv (headF w) γ) => h.2
  have hget : ∀ n k, k < n → (nestL (headF w) n)[k]? = some (strE (layL (headF w) k)) := fun n k h => nestL_get h
  have hnl := nestL_len (headF w)
  have hpb : ∀ γ, okLv (headF w) γ → γ.1 ≤ 100000 := fun γ h => by
    have hpp := pot_small (w := headF w) (by have := headF_len w; omega)
    by_cases hq : 0 < wp (lastF (headF w)) (headF w)
    · obtain ⟨a, b⟩ := h.1.1 hq
      apply Classical.byContradiction
      intro hc
      exact a (γ.1 - 1) (by omega) (layL_none (by omega))
    · have h0 : γ.1 = 0 := h.1.2 hq
      omega
  rw [show firstF (w.count 84) (w.count 46) (w.count 70) = headF w from rfl] at h2 hfl
  generalize okLv (headF w) = P at *
  generalize layL (headF w) = ly at *
  generalize nestL (headF w) = nf at *
  generalize liveB w = b at *
  generalize w.count 84 = n1 at *
  generalize w.count 46 = n2 at *
  generalize w.count 70 = n3 at *
  unfold enM at *
  have h2 := Spec.renE [(1011, 3011), (1012, 3012)] [(3011, 1011), (3012, 1012)] h2 (fun _ => rfl) (fun _ => rfl) rfl
  refine Spec.of_wpx tt_ok Tryd.func40 (by kernel_rfl) rfl ?_
  (repeat' ((conv => whnf); first | refine CondVC.t ?_ | refine CondVC.f ?_ | refine CondVC.dec (fun h => ?_) (fun h => ?_) | refine CondVC.ndec (fun h => ?_) (fun h => ?_) | refine CondVC.mk (fun h => ?_) (fun h => ?_) | refine ArVC.i64 (by first | omega | (simp only; omega)) ?_ | refine SideVC.mk (by first | omega | decide | (simp only; omega) | (simp [slS]; done) | (simp [slS]; omega) | (simp only [byteE_len, mvE_len, strE_len, intE_len, esC_len, List.length_cons, List.length_nil, List.length_append, List.length_replicate, List.length_set, Int.toNat_natCast, and_true] at *; omega)) ?_ | refine LoopN.go ?_ | exact trivial | refine AltVC.mk ?_ ?_ | refine HeldVC.mk rfl ?_ | refine CallVC.pure c1 rfl ?_ | refine CallVC.pure c2 rfl ?_ | refine CallVC.pure c3 rfl ?_ | (refine CallVC.ex [1000, 1001, 1002] rfl h2 ?_; intro γ hγ; refine ⟨rfl, ?_⟩) | refine OpVC.more tt_ok ?_ | refine RestVC.ext tt_ok ?_)); all_goals (conv => whnf)
  obtain ⟨n, x⟩ := γ
  have hoE : okEn x := hoE _ hγ
  have hyes := hyes _ hγ
  have hnot := hnot _ hγ
  have hpb := hpb _ hγ
  have hget := hget n
  have hnl := hnl n
  simp only at hyes hnot hpb
  generalize nf n = ne at *
  refine LoopVC.mk (G := Nat) (fun k => ⟨[(16, .v (i64 k)), (15, .v (i64 ne.length)), (14, .v (.c (.sl 1021))), (1, .v (.c (.str w)))], [(1021, .ext (.nest 40 9 1 ne [])), (1000, .box 43 [.sl 3011, .sl 3012]), (3011, .sl 9 1 (strE x.1)), (3012, .sl 3 1 (intE x.2))]⟩)
    (fun k => k ≤ n ∧ ∀ j, j < k → w ∉ ly j) (fun k => n - k) 0 ⟨Nat.zero_le _, fun j h => absurd h (Nat.not_lt_zero _)⟩ (Sub.mk [] _ ⟨rfl, rfl, rfl, rfl, trivial⟩ rfl rfl) ?_
  intro k ⟨hk, hno⟩
  by_cases hkl : k < n
  · have g0 : ne[(k : Int).toNat]? = some (strE (ly k)) := by rw [Int.toNat_natCast]; exact hget k hkl
    have h7 := Spec.ren [(1000, 9001)] [(9001, 1000)] (l1HasS_spec (ly k) w (hfl k)) rfl rfl rfl
    by_cases hm : w ∈ ly k
    · rw [decide_eq_true hm] at h7
      have hb := hyes k hkl hm
      (repeat' ((conv => whnf); first | refine CondVC.t ?_ | refine CondVC.f ?_ | refine CondVC.dec (fun h => ?_) (fun h => ?_) | refine CondVC.ndec (fun h => ?_) (fun h => ?_) | refine CondVC.mk (fun h => ?_) (fun h => ?_) | refine ArVC.i64 (by first | omega | (simp only; omega)) ?_ | refine SideVC.mk (by first | omega | decide | (simp only; omega) | (simp [slS]; done) | (simp [slS]; omega) | (simp only [byteE_len, mvE_len, strE_len, intE_len, esC_len, List.length_cons, List.length_nil, List.length_append, List.length_replicate, List.length_set, Int.toNat_natCast, and_true] at *; omega)) ?_ | refine LoopN.go ?_ | exact trivial | refine AltVC.mk ?_ ?_ | refine HeldVC.mk rfl ?_ | refine RestVC2.nestAddr tt_ok rfl rfl rfl rfl rfl (by rw [hnl]; omega) ?_ | refine RestVC2.nestLoad tt_ok rfl rfl rfl rfl (by rw [hnl]; omega) ?_ | (refine CallVC.inner 9001 1021 (k : Int).toNat [.c (.sl 9001), .c (.str w)] rfl rfl g0 rfl rfl ?_; refine CallVC.res [9001] rfl h7 rfl ?_; refine BackVC.same rfl rfl g0 rfl rfl ?_) | refine OpVC.more tt_ok ?_ | refine RestVC.ext tt_ok ?_)); all_goals (conv => whnf)
      all_goals first
        | (exfalso; omega)
        | (rw [hb]; exact RetVC.ren [(1011, 3011), (1012, 3012)] [vb true] [(1000, .box 43 [.sl 1011, .sl 1012]), (1011, .sl 9 1 (strE x.1)), (1012, .sl 3 1 (intE x.2))] rfl rfl rfl ⟨x, hoE, rfl, rfl⟩)
    · rw [decide_eq_false hm] at h7
      (repeat' ((conv => whnf); first | refine CondVC.t ?_ | refine CondVC.f ?_ | refine CondVC.dec (fun h => ?_) (fun h => ?_) | refine CondVC.ndec (fun h => ?_) (fun h => ?_) | refine CondVC.mk (fun h => ?_) (fun h => ?_) | refine ArVC.i64 (by first | omega | (simp only; omega)) ?_ | refine SideVC.mk (by first | omega | decide | (simp only; omega) | (simp [slS]; done) | (simp [slS]; omega) | (simp only [byteE_len, mvE_len, strE_len, intE_len, esC_len, List.length_cons, List.length_nil, List.length_append, List.length_replicate, List.length_set, Int.toNat_natCast, and_true] at *; omega)) ?_ | refine LoopN.go ?_ | exact trivial | refine AltVC.mk ?_ ?_ | refine HeldVC.mk rfl ?_ | refine RestVC2.nestAddr tt_ok rfl rfl rfl rfl rfl (by rw [hnl]; omega) ?_ | refine RestVC2.nestLoad tt_ok rfl rfl rfl rfl (by rw [hnl]; omega) ?_ | (refine CallVC.inner 9001 1021 (k : Int).toNat [.c (.sl 9001), .c (.str w)] rfl rfl g0 rfl rfl ?_; refine CallVC.res [9001] rfl h7 rfl ?_; refine BackVC.same rfl rfl g0 rfl rfl ?_) | refine OpVC.more tt_ok ?_ | refine RestVC.ext tt_ok ?_)); all_goals (conv => whnf)
      all_goals first
        | (exfalso; omega)
        | exact ⟨k + 1, ⟨by omega, fun j hj => by
            by_cases e : j = k
            · rw [e]; exact hm
            · exact hno j (by omega)⟩, by omega, Sub.mk [] _ ⟨rfl, rfl, rfl, rfl, trivial⟩ rfl rfl⟩
  · have hb := hnot fun j hj => hno j (by omega)
    (repeat' ((conv => whnf); first | refine CondVC.t ?_ | refine CondVC.f ?_ | refine CondVC.dec (fun h => ?_) (fun h => ?_) | refine CondVC.ndec (fun h => ?_) (fun h => ?_) | refine CondVC.mk (fun h => ?_) (fun h => ?_) | refine ArVC.i64 (by first | omega | (simp only; omega)) ?_ | refine SideVC.mk (by first | omega | decide | (simp only; omega) | (simp [slS]; done) | (simp [slS]; omega) | (simp only [byteE_len, mvE_len, strE_len, intE_len, esC_len, List.length_cons, List.length_nil, List.length_append, List.length_replicate, List.length_set, Int.toNat_natCast, and_true] at *; omega)) ?_ | refine LoopN.go ?_ | exact trivial | refine AltVC.mk ?_ ?_ | refine HeldVC.mk rfl ?_ | refine OpVC.more tt_ok ?_ | refine RestVC.ext tt_ok ?_)); all_goals (conv => whnf)
    all_goals first
      | (exfalso; omega)
      | (rw [hb]; exact RetVC.ren [(1011, 3011), (1012, 3012)] [vb false] [(1000, .box 43 [.sl 1011, .sl 1012]), (1011, .sl 9 1 (strE x.1)), (1012, .sl 3 1 (intE x.2))] rfl rfl rfl ⟨x, hoE, rfl, rfl⟩)
theorem specIsLive_spec (w : Tx) (hw : w.length ≤ 1099511627776) : Spec Tryd.prog 14 [.c (.str w)] [] (isRes [vb (isLiveF w), vb (lineOf w 8)] []) := by
  have h1 := swLine_spec w hw
  unfold isLiveF
  refine Spec.of_wpx tt_ok Tryd.func14 (by kernel_rfl) rfl ?_
  cases hl : lineOf w 8 with
  | false =>
    rw [hl] at h1
    (repeat' ((conv => whnf); first | refine CondVC.t ?_ | refine CondVC.f ?_ | refine CondVC.dec (fun h => ?_) (fun h => ?_) | refine CondVC.ndec (fun h => ?_) (fun h => ?_) | refine CondVC.mk (fun h => ?_) (fun h => ?_) | refine ArVC.i64 (by first | omega | (simp only; omega)) ?_ | refine SideVC.mk (by first | omega | decide | (simp only; omega) | (simp [slS]; done) | (simp [slS]; omega) | (simp only [byteE_len, mvE_len, strE_len, intE_len, esC_len, List.length_cons, List.length_nil, List.length_append, List.length_replicate, List.length_set, Int.toNat_natCast, and_true] at *; omega)) ?_ | refine LoopN.go ?_ | exact trivial | refine AltVC.mk ?_ ?_ | refine HeldVC.mk rfl ?_ | refine CallVC.pure h1 rfl ?_ | refine OpVC.more tt_ok ?_ | refine RestVC.ext tt_ok ?_)); all_goals (conv => whnf)
    all_goals exact RetVC.res rfl rfl
  | true =>
    rw [hl] at h1
    have h5 := swIsLive_spec w (line8_ok hl).1 (line8_ok hl).2
    unfold enM at h5
    have h5 := Spec.renE [(1000, 8), (1001, 2001), (1002, 2002), (1011, 2011), (1012, 2012)] [(8, 1000), (2001, 1001), (2002, 1002), (2011, 1011), (2012, 1012)] h5 (fun _ => rfl) (fun _ => rfl) rfl
    generalize liveB w = b at *
    (repeat' ((conv => whnf); first | refine CondVC.t ?_ | refine CondVC.f ?_ | refine CondVC.dec (fun h => ?_) (fun h => ?_) | refine CondVC.ndec (fun h => ?_) (fun h => ?_) | refine CondVC.mk (fun h => ?_) (fun h => ?_) | refine ArVC.i64 (by first | omega | (simp only; omega)) ?_ | refine SideVC.mk (by first | omega | decide | (simp only; omega) | (simp [slS]; done) | (simp [slS]; omega) | (simp only [byteE_len, mvE_len, strE_len, intE_len, esC_len, List.length_cons, List.length_nil, List.length_append, List.length_replicate, List.length_set, Int.toNat_natCast, and_true] at *; omega)) ?_ | refine LoopN.go ?_ | exact trivial | refine AltVC.mk ?_ ?_ | refine HeldVC.mk rfl ?_ | refine CallVC.pure h1 rfl ?_ | (refine CallVC.nil 2001 9 1 [.c (.ptr 8 0), .c (.str w)] [(8, .box 43 [.sl 2001, .val (.slice none 0 0)])] rfl rfl rfl ?_; refine CallVC.nil 2002 3 1 [.c (.ptr 8 0), .c (.str w)] [(2001, .sl 9 1 []), (8, .box 43 [.sl 2001, .sl 2002])] rfl rfl rfl ?_; refine CallVC.ex [8, 2001, 2002] rfl h5 ?_; intro x1 hx1; refine ⟨rfl, ?_⟩) | refine OpVC.more tt_ok ?_ | refine RestVC.ext tt_ok ?_)); all_goals (conv => whnf)
    all_goals exact RetVC.res rfl rfl
theorem lawIsLive_spec (w : Tx) (hw : w.length ≤ 9223372036854775807) : Spec Tryd.prog 3 [.c (.str w)] [] (isRes [vb true] []) := by
  refine Spec.of_wpx tt_ok Tryd.func3 (by kernel_rfl) rfl ?_
  (repeat' ((conv => whnf); first | refine CondVC.t ?_ | refine CondVC.f ?_ | refine CondVC.dec (fun h => ?_) (fun h => ?_) | refine CondVC.ndec (fun h => ?_) (fun h => ?_) | refine CondVC.mk (fun h => ?_) (fun h => ?_) | refine ArVC.i64 (by first | omega | (simp only; omega)) ?_ | refine SideVC.mk (by first | omega | decide | (simp only; omega) | (simp [slS]; done) | (simp [slS]; omega) | (simp only [byteE_len, mvE_len, strE_len, intE_len, esC_len, List.length_cons, List.length_nil, List.length_append, List.length_replicate, List.length_set, Int.toNat_natCast, and_true] at *; omega)) ?_ | refine LoopN.go ?_ | exact trivial | refine AltVC.mk ?_ ?_ | refine HeldVC.mk rfl ?_ | refine CallVC.pure (specIsLive_spec w (by omega)) rfl ?_ | refine CallVC.pure (implIsLive_spec w (by omega)) rfl ?_ | refine OpVC.more tt_ok ?_ | refine RestVC.ext tt_ok ?_)); all_goals (conv => whnf)
  all_goals first | exact RetVC.res rfl rfl | (exfalso; simp_all; done)
end Go.Proofs.YtnekgpjgekakkaaDoor.X
