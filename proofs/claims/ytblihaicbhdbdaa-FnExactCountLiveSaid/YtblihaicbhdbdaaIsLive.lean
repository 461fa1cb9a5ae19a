/- Whether a line is live: the program's and the reference's. No condition beyond the statement's. -/
import Derived.Test.YtblihaicbhdbdaaLive
import Derived.Test.YtblihaicbhdbdaaWays
import Derived.Test.YtblihaicbhdbdaaEdge
namespace Go.Proofs.Ytblihaicbhdbdaa.X
open Go.Proofs
set_option maxRecDepth 100000
set_option linter.unusedVariables false
set_option linter.unusedSimpArgs false

/-- The first line of a line's signs. -/
def headF (w : Tx) : Tx := firstF (w.count 84) (w.count 46) (w.count 70)
theorem headF_last (w : Tx) : lastF (headF w) = lastF w := by
  have h1 : (headF w).count 84 = w.count 84 := by simp [headF, firstF, rep_one, List.count_append, List.count_replicate]
  have h2 : (headF w).count 46 = w.count 46 := by simp [headF, firstF, rep_one, List.count_append, List.count_replicate]
  have h3 : (headF w).count 70 = w.count 70 := by simp [headF, firstF, rep_one, List.count_append, List.count_replicate]
  unfold lastF
  rw [h1, h2, h3]
theorem headF_len (w : Tx) : (headF w).length ≤ w.length := by
  have := count3_le w
  unfold headF
  rw [firstF_len]; omega
def liveB (w : Tx) : Bool := decide (0 < wp (lastF w) w) && decide (0 < wp w (headF w))
theorem live_reach {f : Tx} (hf : f.length ≤ 8) (hok : f.all okCh = true) : ∀ {k : Nat} {w : Tx}, Reach f w k → liveT w = true → liveT f = true
  | 0, w, h, hl => by rw [show w = f from h] at hl; exact hl
  | k + 1, w, ⟨u, hu, m, hm, e⟩, hl => by
    subst e
    have hul : u.length ≤ 8 := by obtain ⟨_, h2, _⟩ := reach_ok hok hu; omega
    exact live_reach hf hok hu (live_back hul hm hl)
theorem liveB_iff {w : Tx} (hw : w.length ≤ 8) : liveB w = true ↔ liveT w = true ∧ 0 < playsF w (headF w) := by
  unfold liveB liveT
  rw [Bool.and_eq_true, decide_eq_true_eq, decide_eq_true_eq, wp_few (g := w) (by have := headF_len w; omega : (headF w).length ≤ 8)]
  constructor
  · rintro ⟨a, b⟩; exact ⟨a, by omega⟩
  · rintro ⟨a, b⟩; exact ⟨a, by omega⟩
def okLv (f : Tx) (γ : Nat × Wy) : Prop := ((0 < wp (lastF f) f → (∀ j, j < γ.1 → layL f j ≠ []) ∧ layL f γ.1 = []) ∧ (¬ 0 < wp (lastF f) f → γ.1 = 0)) ∧ okEn γ.2
theorem okLv_yes {w : Tx} {γ : Nat × Wy} (hw : w.length ≤ 8) (h : okLv (headF w) γ) {k : Nat} (hk : k < γ.1) (hm : w ∈ layL (headF w) k) : liveB w = true := by
  have hl : liveT (headF w) = true := by
    apply Classical.byContradiction
    intro hn
    unfold liveT at hn
    rw [decide_eq_true_eq] at hn
    have h0 : γ.1 = 0 := h.1.2 hn
    rw [h0] at hk
    exact Nat.not_lt_zero _ hk
  rw [liveB_iff hw]
  have hf8 : (headF w).length ≤ 8 := by have := headF_len w; omega
  exact (live_lay hf8 (firstF_ok _ _ _) hl (headF_last w).symm).1 ⟨k, hm⟩
theorem okLv_no {w : Tx} {γ : Nat × Wy} (hw : w.length ≤ 8) (h : okLv (headF w) γ) (hn : ∀ k, k < γ.1 → w ∉ layL (headF w) k) : liveB w = false := by
  apply Bool.eq_false_iff.2
  intro hb
  rw [liveB_iff hw] at hb
  have hf8 : (headF w).length ≤ 8 := by have := headF_len w; omega
  have hl : liveT (headF w) = true := by
    have : ∃ k, w ∈ layF (headF w) k := by
      apply Classical.byContradiction
      intro hc
      have := hb.2
      rw [plays_none fun k hk => hc ⟨k, hk⟩] at this
      omega
    obtain ⟨k, hk⟩ := this
    exact live_reach hf8 (firstF_ok _ _ _) (lay_mem.1 hk) hb.1
  obtain ⟨k, hk⟩ := (live_lay hf8 (firstF_ok _ _ _) hl (headF_last w).symm).2 hb
  have hq : 0 < wp (lastF (headF w)) (headF w) := by unfold liveT at hl; rwa [decide_eq_true_eq] at hl
  obtain ⟨_, h2⟩ := h.1.1 hq
  by_cases hlt : k < γ.1
  · exact hn k hlt hk
  · rw [layL_stop h2 (by omega)] at hk; cases hk

theorem swLive_spec (a b c : Nat) (h : a + b + c ≤ 8) (x0 : Wy) (hx0 : okEn x0) : Spec Try.prog 28 [.c (.ptr 1000 0), i64 a, i64 b, i64 c] (enM x0)
    (exRes (okLv (firstF a b c)) (fun _ => [.c (.sl 1021)])
      (fun γ => [(1021, .ext (.nest 46 9 1 (nestL (firstF a b c) γ.1) [])), (1000, .box 48 [.sl 1011, .sl 1012]), (1011, .sl 9 1 (strE γ.2.1)), (1012, .sl 3 1 (intE γ.2.2))])) := by
  have h1 := liFirst_spec a b c (by omega) (by omega) (by omega)
  have hl := firstF_len a b c
  have hok := firstF_ok a b c
  have h2 := ends_all (firstF a b c) (by omega) hok x0 hx0
  have h3 := fun x hx => swReach_spec (firstF a b c) hok (by omega) x hx
  have hn0 : nestL (firstF a b c) 0 = [] := rfl
  have hnn : 0 ≤ wp (lastF (firstF a b c)) (firstF a b c) := by rw [wp_few (by omega)]; omega
  unfold okLv
  generalize firstF a b c = f at *
  unfold enM enR at *
  generalize wp (lastF f) f = q at *
  have h2 := Spec.renE [(1011, 3011), (1012, 3012)] [(3011, 1011), (3012, 1012)] h2 (fun _ => rfl) (fun _ => rfl) rfl
  have h3 := fun x hx => Spec.renE [(1001, 3011), (1002, 3012), (1011, 3021), (1012, 3022)] [(3011, 1001), (3012, 1002), (3021, 1011), (3022, 1012)] (h3 x hx) (fun _ => rfl) (fun _ => rfl) rfl
  refine Spec.of_wpx tt_ok Try.func28 (by kernel_rfl) rfl ?_
  by_cases hq : q = 0
  · (repeat' ((conv => whnf); first | refine CondVC.t ?_ | refine CondVC.f ?_ | refine CondVC.dec (fun h => ?_) (fun h => ?_) | refine CondVC.ndec (fun h => ?_) (fun h => ?_) | refine CondVC.mk (fun h => ?_) (fun h => ?_) | refine ArVC.i64 (by first | omega | (simp only; omega)) ?_ | refine SideVC.mk (by first | omega | decide | (simp only; omega) | (simp [slS]; done) | (simp [slS]; omega) | (simp only [byteE_len, mvE_len, strE_len, intE_len, esC_len, List.length_cons, List.length_nil, List.length_append, List.length_replicate, List.length_set, Int.toNat_natCast, and_true] at *; omega)) ?_ | refine LoopN.go ?_ | exact trivial | refine AltVC.mk ?_ ?_ | refine HeldVC.mk rfl ?_ | refine CallVC.pure h1 rfl ?_ | (refine CallVC.ex [1000, 1001, 1002] rfl h2 ?_; intro x hx; refine ⟨rfl, ?_⟩) | refine OpVC.more tt_ok ?_ | refine RestVC.ext tt_ok ?_)); all_goals (conv => whnf)
    all_goals first
      | (exfalso; omega)
      | exact RetVC.nil 1021 46 1 [.c (.sl 1021)] [(1000, .box 48 [.sl 3011, .sl 3012]), (3011, .sl 9 1 (strE x.1)), (3012, .sl 3 1 (intE x.2))] rfl rfl rfl
          (RetVC.toNest 1021 9 1 rfl (RetVC.ren [(1011, 3011), (1012, 3012)] [.c (.sl 1021)] [(1021, .ext (.nest 46 9 1 [] [])), (1000, .box 48 [.sl 1011, .sl 1012]), (1011, .sl 9 1 (strE x.1)), (1012, .sl 3 1 (intE x.2))] rfl rfl rfl ⟨(0, x), ⟨⟨fun hc => by omega, fun _ => rfl⟩, hx.1⟩, rfl, by simp only [hn0]⟩))
  · (repeat' ((conv => whnf); first | refine CondVC.t ?_ | refine CondVC.f ?_ | refine CondVC.dec (fun h => ?_) (fun h => ?_) | refine CondVC.ndec (fun h => ?_) (fun h => ?_) | refine CondVC.mk (fun h => ?_) (fun h => ?_) | refine ArVC.i64 (by first | omega | (simp only; omega)) ?_ | refine SideVC.mk (by first | omega | decide | (simp only; omega) | (simp [slS]; done) | (simp [slS]; omega) | (simp only [byteE_len, mvE_len, strE_len, intE_len, esC_len, List.length_cons, List.length_nil, List.length_append, List.length_replicate, List.length_set, Int.toNat_natCast, and_true] at *; omega)) ?_ | refine LoopN.go ?_ | exact trivial | refine AltVC.mk ?_ ?_ | refine HeldVC.mk rfl ?_ | refine CallVC.pure h1 rfl ?_ | (refine CallVC.ex [1000, 1001, 1002] rfl h2 ?_; intro x hx; refine ⟨rfl, ?_⟩; have h3 := h3 x hx.1) | (refine CallVC.ex [1000, 3011, 3012] rfl h3 ?_; intro γ hγ; refine ⟨rfl, ?_⟩) | refine OpVC.more tt_ok ?_ | refine RestVC.ext tt_ok ?_)); all_goals (conv => whnf)
    all_goals first
      | (exfalso; omega)
      | exact RetVC.ren [(1011, 3021), (1012, 3022)] [.c (.sl 1021)] [(1021, .ext (.nest 46 9 1 (nestL f γ.1) [])), (1000, .box 48 [.sl 1011, .sl 1012]), (1011, .sl 9 1 (strE γ.2.1)), (1012, .sl 3 1 (intE γ.2.2))] rfl rfl rfl ⟨γ, ⟨⟨fun _ => ⟨hγ.1, hγ.2.1⟩, fun hc => by omega⟩, hγ.2.2⟩, rfl, rfl⟩

theorem line8_ok {w : Tx} (h : lineOf w 8 = true) : w.all okCh = true ∧ w.length ≤ 8 := by
  unfold lineOf at h
  simp only [Bool.and_eq_true, decide_eq_true_eq] at h
  exact ⟨h.2, by omega⟩
theorem line8_and (w : Tx) : (lineOf w 12 && decide ((w.length : Int) ≤ 8)) = lineOf w 8 := by
  unfold lineOf
  cases w.all okCh
  · simp
  · simp only [Bool.and_true]
    rw [← Bool.decide_and]
    exact decide_eq_decide.2 (by omega)
def isLiveF (w : Tx) : Bool := lineOf w 8 && liveB w
end Go.Proofs.Ytblihaicbhdbdaa.X
