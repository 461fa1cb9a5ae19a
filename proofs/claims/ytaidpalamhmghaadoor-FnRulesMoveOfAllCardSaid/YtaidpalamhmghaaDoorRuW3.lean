/- Moves by rules: the reference's list, and what is asked of it. No condition beyond each statement's. -/
import Derived.Test.YtaidpalamhmghaaDoorRuW2
namespace Go.Proofs.YtaidpalamhmghaaDoor.X
open Go.Proofs
set_option maxRecDepth 100000
set_option linter.unusedVariables false
set_option linter.unusedSimpArgs false
/-- What is asked ahead of the cells between. -/
def preR (w : Tx) (bk l : Bool) (a b : Nat) : Prop := ¬ w.getD a 0 = 46 ∧ w.getD b 0 = 46 ∧ (bk = true ∨ (w.getD a 0 = 84 ↔ ¬ b < a)) ∧ (l = true ∨ farS ((a : Int), (b : Int)) ≤ 2)
theorem rc_pre {w : Tx} {o bk l : Bool} {a b : Nat} (ha : a < w.length) (hb : b < w.length) : rcF w o bk l ((a : Int), (b : Int)) = true ↔ preR w bk l a b ∧ ∀ k : Nat, 1 ≤ k → k < farS ((a : Int), (b : Int)) → midOk w o ((a : Int), (b : Int)) k = true := by
  rw [rc_iff]
  unfold preR
  simp only [← getD_atF ha, ← getD_atF hb, Int.ofNat_lt]
  constructor
  · rintro ⟨h1, h2, h3, h4, h5, h6, h7⟩; exact ⟨⟨h3, h4, h5, h6⟩, h7⟩
  · rintro ⟨⟨h3, h4, h5, h6⟩, h7⟩; exact ⟨by omega, by omega, h3, h4, h5, h6, h7⟩
theorem rc_out {w : Tx} {o bk l : Bool} {m : Mv} (h : ¬ (0 ≤ m.1 ∧ m.1 ≤ (w.length : Int) - 1) ∨ ¬ (0 ≤ m.2 ∧ m.2 ≤ (w.length : Int) - 1)) : rcF w o bk l m = false := by
  cases hr : rcF w o bk l m with
  | false => rfl
  | true => have := rc_iff.1 hr; omega
theorem way_one (m : Mv) : wayS m = 1 ∨ wayS m = -1 := by unfold wayS; split <;> simp
/-- The walk along the cells between, in a direction. -/
theorem mid_at {w : Tx} {o : Bool} {a b k : Nat} (ha : a < w.length) (hb : b < w.length) (hk : k < farS ((a : Int), (b : Int))) : midOk w o ((a : Int), (b : Int)) k = (decide (¬ w.getD ((a : Int) + (k : Int) * wayS ((a : Int), (b : Int))).toNat 0 = 46) && (o || decide (¬ w.getD ((a : Int) + (k : Int) * wayS ((a : Int), (b : Int))).toNat 0 = w.getD a 0))) := by
  unfold midOk
  simp only
  rw [← getD_atF ha, atF_in]
  have := far_way ((a : Int), (b : Int))
  simp only at this
  have hws := way_one ((a : Int), (b : Int))
  rcases hws with e | e <;> rw [e] at this ⊢ <;> omega
set_option maxHeartbeats 4000000 in
theorem ruCan_spec (w : Tx) (m : Mv) (o bk l : Bool) (hw : w.length ≤ 1000) : Spec Tryd.prog 70 [.c (.str w), .agg (mvC m), ruleV o bk l] [] (isRes [vb (rcF w o bk l m)] []) := by
  obtain ⟨x, y⟩ := m
  have h1 := l1In_spec x 0 ((w.length : Int) - 1)
  have h2 := l1In_spec y 0 ((w.length : Int) - 1)
  by_cases c1 : 0 ≤ x ∧ x ≤ (w.length : Int) - 1
  · by_cases c2 : 0 ≤ y ∧ y ≤ (w.length : Int) - 1
    · rw [decide_eq_true c1] at h1
      rw [decide_eq_true c2] at h2
      obtain ⟨a, rfl⟩ := Int.eq_ofNat_of_zero_le c1.1
      obtain ⟨b, rfl⟩ := Int.eq_ofNat_of_zero_le c2.1
      have ha : a < w.length := by omega
      have hb : b < w.length := by omega
      have hrc := rc_pre (w := w) (o := o) (bk := bk) (l := l) ha hb
      have hma : ∀ k, _ := fun k => mid_at (w := w) (o := o) (k := k) ha hb
      have hfw := far_way ((a : Int), (b : Int))
      have hmr : ∀ k : Nat, k < farS ((a : Int), (b : Int)) → 0 ≤ (a : Int) + (k : Int) * wayS ((a : Int), (b : Int)) ∧ (a : Int) + (k : Int) * wayS ((a : Int), (b : Int)) < w.length := fun k hk => by
        simp only at hfw
        rcases way_one ((a : Int), (b : Int)) with e | e <;> rw [e] at hfw ⊢ <;> omega
      simp only at hfw
      have hga : w.getD (a : Int).toNat 0 = w.getD a 0 := by rw [Int.toNat_natCast]
      have hgb : w.getD (b : Int).toNat 0 = w.getD b 0 := by rw [Int.toNat_natCast]
      have hpno : ¬ preR w bk l a b → rcF w o bk l ((a : Int), (b : Int)) = false := fun hn => by
        cases hr : rcF w o bk l ((a : Int), (b : Int)) with
        | false => rfl
        | true => exact absurd (hrc.1 hr).1 hn
      by_cases hd : b < a
      · have hw1 : wayS ((a : Int), (b : Int)) = -1 := by unfold wayS; rw [if_pos (by simp only; omega)]
        have hF : ((farS ((a : Int), (b : Int)) : Nat) : Int) = ((b : Int) - a) * -1 := by rw [hw1] at hfw; omega
        rw [hw1] at hma hmr hfw
        have hpq : preR w bk l a b ↔ (¬ w.getD a 0 = 46 ∧ w.getD b 0 = 46 ∧ (bk = true ∨ ¬ w.getD a 0 = 84) ∧ (l = true ∨ ¬ 2 < ((b : Int) - a) * -1)) := by
          unfold preR
          have e1 : (w.getD a 0 = 84 ↔ ¬ b < a) ↔ ¬ w.getD a 0 = 84 := by simp [hd]
          have e2 : farS ((a : Int), (b : Int)) ≤ 2 ↔ ¬ 2 < ((b : Int) - a) * -1 := by omega
          rw [e1, e2]
        generalize farS ((a : Int), (b : Int)) = F at *
        by_cases hp : preR w bk l a b
        · have hpc := hpq.1 hp
          have hyes : (∀ k : Nat, 1 ≤ k → k < F → midOk w o ((a : Int), (b : Int)) k = true) → rcF w o bk l ((a : Int), (b : Int)) = true := fun h => hrc.2 ⟨hp, h⟩
          have hno : ∀ k : Nat, 1 ≤ k → k < F → midOk w o ((a : Int), (b : Int)) k = false → rcF w o bk l ((a : Int), (b : Int)) = false := fun k hk1 hk2 hk3 => by
            cases hr : rcF w o bk l ((a : Int), (b : Int)) with
            | false => rfl
            | true => have := (hrc.1 hr).2 k hk1 hk2; rw [hk3] at this; cases this
          clear hrc hpno hpq hp
          generalize rcF w o bk l ((a : Int), (b : Int)) = R at *
          generalize midOk w o ((a : Int), (b : Int)) = mk at *
          refine Spec.of_wpx tt_ok Tryd.func70 (by kernel_rfl) rfl ?_
          (repeat' ((conv => whnf); first | refine CondVC.t ?_ | refine CondVC.f ?_ | refine CondVC.dec (fun h => ?_) (fun h => ?_) | refine CondVC.ndec (fun h => ?_) (fun h => ?_) | refine CondVC.mk (fun h => ?_) (fun h => ?_) | refine ArVC.i64 (by first | omega | (simp only; omega)) ?_ | refine SideVC.mk (by first | omega | decide | (simp only; omega) | (simp [slS]; done) | (simp [slS]; omega) | (simp only [byteE_len, mvE_len, strE_len, intE_len, esC_len, List.length_cons, List.length_nil, List.length_append, List.length_replicate, List.length_set, Int.toNat_natCast, and_true] at *; omega)) ?_ | refine LoopN.go ?_ | exact trivial | refine AltVC.mk ?_ ?_ | refine HeldVC.mk rfl ?_ | refine CallVC.pure h1 rfl ?_ | refine CallVC.pure h2 rfl ?_ | refine OpVC.more tt_ok ?_ | refine RestVC.ext tt_ok ?_)); all_goals (conv => whnf)
          all_goals simp only [hga, hgb, u8_inj, u8_84, u8_46] at *
          all_goals (generalize hx : w.getD a 0 = x at *; generalize hy : w.getD b 0 = y at *)
          all_goals first
            | (exfalso; omega)
            | (exfalso; clear h1 h2 hma hmr hyes hno hfw hF hw1 hx hy; simp_all; done)
            | skip
          all_goals
            refine LoopVC.mk (G := Nat) (fun k => ⟨[(9, .v (i64 ((k : Int) + 1))), (8, .v (i64 (F : Nat))), (7, .v (i64 (-1))), (5, .v (.c (.ptr 5 0))), (4, .v (.c (.ptr 4 0))), (0, .v (.c (.str w)))],
                [(5, .box 31 [.bool o, .bool bk, .bool l]), (4, .box 33 [.int .i64 (a : Int), .int .i64 (b : Int)])]⟩)
              (fun k => k ≤ F ∧ ∀ j : Nat, 1 ≤ j → j ≤ k → mk j = true) (fun k => F - k) 0 ⟨Nat.zero_le _, fun j h1 h2 => by omega⟩ (Sub.mk [] [] ⟨rfl, congrArg (fun z => some (E.v (i64 z))) hF.symm, rfl, rfl, rfl, rfl, trivial⟩ rfl rfl) ?_
            intro k ⟨hk, hall⟩
            by_cases hlt : k + 1 < F
            · have hr := hmr (k + 1) hlt
              have hm := hma (k + 1) hlt
              have hnk := hno (k + 1) (by omega) hlt
              rw [show ((k + 1 : Nat) : Int) = (k : Int) + 1 by omega] at hr hm
              clear hma hmr hyes hno
              cases hmk : mk (k + 1) with
              | true =>
                rw [hmk] at hm
                have hm2 : ¬ (w.getD ((a : Int) + ((k : Int) + 1) * -1).toNat 0) = 46 ∧ (o = true ∨ ¬ (w.getD ((a : Int) + ((k : Int) + 1) * -1).toNat 0) = x) := by
                  have := hm.symm
                  simp only [Bool.and_eq_true, Bool.or_eq_true, decide_eq_true_eq] at this
                  exact this
                clear hm
                have hga : w.getD (a : Int).toNat 0 = x := by rw [Int.toNat_natCast, hx]
                have hm3 : ¬ (((w.getD ((a : Int) + ((k : Int) + 1) * -1).toNat 0).toNat : Nat) : Int) = 46 ∧ (o = true ∨ ¬ (((w.getD ((a : Int) + ((k : Int) + 1) * -1).toNat 0).toNat : Nat) : Int) = (((w.getD (a : Int).toNat 0).toNat : Nat) : Int)) := by rw [u8_46, u8_inj, hga]; exact hm2
                clear hga hm2
                obtain ⟨hm3, hm4⟩ := hm3
                cases o <;> simp only [Bool.false_eq_true, false_or, true_or] at hm4
                all_goals (repeat' ((conv => whnf); first | refine CondVC.t ?_ | refine CondVC.f ?_ | refine CondVC.dec (fun h => ?_) (fun h => ?_) | refine CondVC.ndec (fun h => ?_) (fun h => ?_) | refine CondVC.mk (fun h => ?_) (fun h => ?_) | refine ArVC.i64 (by first | omega | (simp only; omega)) ?_ | refine SideVC.mk (by first | omega | decide | (simp only; omega) | (simp [slS]; done) | (simp [slS]; omega) | (simp only [byteE_len, mvE_len, strE_len, intE_len, esC_len, List.length_cons, List.length_nil, List.length_append, List.length_replicate, List.length_set, Int.toNat_natCast, and_true] at *; omega)) ?_ | refine LoopN.go ?_ | exact trivial | refine AltVC.mk ?_ ?_ | refine HeldVC.mk rfl ?_ | refine OpVC.more tt_ok ?_ | refine RestVC.ext tt_ok ?_)); all_goals (conv => whnf)
                all_goals first
                  | (exfalso; omega)
                  | exact ⟨k + 1, ⟨by omega, fun j hj1 hj2 => by
                      by_cases ej : j = k + 1
                      · subst ej; exact hmk
                      · exact hall j hj1 (by omega)⟩, by omega, Sub.mk [] _ ⟨congrArg (fun z => some (E.v (i64 z))) (by omega), rfl, rfl, rfl, rfl, rfl, trivial⟩ rfl rfl⟩
                  | (exfalso; clear h1 h2 hw1; simp_all; done)
              | false =>
                rw [hmk] at hm
                have hm2 : (w.getD ((a : Int) + ((k : Int) + 1) * -1).toNat 0) = 46 ∨ (o = false ∧ (w.getD ((a : Int) + ((k : Int) + 1) * -1).toNat 0) = x) := by
                  have := hm.symm
                  simp only [Bool.and_eq_false_iff, Bool.or_eq_false_iff, decide_eq_false_iff_not, Classical.not_not] at this
                  exact this
                clear hm
                rw [hnk hmk]
                clear hnk
                have hga : w.getD (a : Int).toNat 0 = x := by rw [Int.toNat_natCast, hx]
                have hm3 : (((w.getD ((a : Int) + ((k : Int) + 1) * -1).toNat 0).toNat : Nat) : Int) = 46 ∨ (o = false ∧ (((w.getD ((a : Int) + ((k : Int) + 1) * -1).toNat 0).toNat : Nat) : Int) = (((w.getD (a : Int).toNat 0).toNat : Nat) : Int)) := by rw [u8_46, u8_inj, hga]; exact hm2
                clear hga hm2
                cases o <;> simp only [Bool.true_eq_false, false_and, or_false, true_and] at hm3
                all_goals (repeat' ((conv => whnf); first | refine CondVC.t ?_ | refine CondVC.f ?_ | refine CondVC.dec (fun h => ?_) (fun h => ?_) | refine CondVC.ndec (fun h => ?_) (fun h => ?_) | refine CondVC.mk (fun h => ?_) (fun h => ?_) | refine ArVC.i64 (by first | omega | (simp only; omega)) ?_ | refine SideVC.mk (by first | omega | decide | (simp only; omega) | (simp [slS]; done) | (simp [slS]; omega) | (simp only [byteE_len, mvE_len, strE_len, intE_len, esC_len, List.length_cons, List.length_nil, List.length_append, List.length_replicate, List.length_set, Int.toNat_natCast, and_true] at *; omega)) ?_ | refine LoopN.go ?_ | exact trivial | refine AltVC.mk ?_ ?_ | refine HeldVC.mk rfl ?_ | refine OpVC.more tt_ok ?_ | refine RestVC.ext tt_ok ?_)); all_goals (conv => whnf)
                all_goals first
                  | (exfalso; omega)
                  | exact RetVC.res rfl rfl
                  | (exfalso; clear h1 h2 hw1; simp_all; done)
            · rw [hyes fun j hj1 hj2 => hall j hj1 (by omega)]
              (repeat' ((conv => whnf); first | refine CondVC.t ?_ | refine CondVC.f ?_ | refine CondVC.dec (fun h => ?_) (fun h => ?_) | refine CondVC.ndec (fun h => ?_) (fun h => ?_) | refine CondVC.mk (fun h => ?_) (fun h => ?_) | refine ArVC.i64 (by first | omega | (simp only; omega)) ?_ | refine SideVC.mk (by first | omega | decide | (simp only; omega) | (simp [slS]; done) | (simp [slS]; omega) | (simp only [byteE_len, mvE_len, strE_len, intE_len, esC_len, List.length_cons, List.length_nil, List.length_append, List.length_replicate, List.length_set, Int.toNat_natCast, and_true] at *; omega)) ?_ | refine LoopN.go ?_ | exact trivial | refine AltVC.mk ?_ ?_ | refine HeldVC.mk rfl ?_ | refine OpVC.more tt_ok ?_ | refine RestVC.ext tt_ok ?_)); all_goals (conv => whnf)
              all_goals first
                | (exfalso; omega)
                | exact RetVC.res rfl rfl
        · rw [hpno hp]
          rw [hpq] at hp
          clear hrc hma hmr hpno hpq hfw hF
          refine Spec.of_wpx tt_ok Tryd.func70 (by kernel_rfl) rfl ?_
          (repeat' ((conv => whnf); first | refine CondVC.t ?_ | refine CondVC.f ?_ | refine CondVC.dec (fun h => ?_) (fun h => ?_) | refine CondVC.ndec (fun h => ?_) (fun h => ?_) | refine CondVC.mk (fun h => ?_) (fun h => ?_) | refine ArVC.i64 (by first | omega | (simp only; omega)) ?_ | refine SideVC.mk (by first | omega | decide | (simp only; omega) | (simp [slS]; done) | (simp [slS]; omega) | (simp only [byteE_len, mvE_len, strE_len, intE_len, esC_len, List.length_cons, List.length_nil, List.length_append, List.length_replicate, List.length_set, Int.toNat_natCast, and_true] at *; omega)) ?_ | refine LoopN.go ?_ | exact trivial | refine AltVC.mk ?_ ?_ | refine HeldVC.mk rfl ?_ | refine CallVC.pure h1 rfl ?_ | refine CallVC.pure h2 rfl ?_ | refine OpVC.more tt_ok ?_ | refine RestVC.ext tt_ok ?_)); all_goals (conv => whnf)
          all_goals simp only [hga, hgb, u8_inj, u8_84, u8_46] at *
          all_goals (generalize w.getD a 0 = x at *; generalize w.getD b 0 = y at *)
          all_goals first
            | exact RetVC.res rfl rfl
            | (exfalso; omega)
            | (exfalso; clear h1 h2 hw1; simp_all; done)
      · have hw1 : wayS ((a : Int), (b : Int)) = 1 := by unfold wayS; rw [if_neg (by simp only; omega)]
        have hF : ((farS ((a : Int), (b : Int)) : Nat) : Int) = ((b : Int) - a) * 1 := by rw [hw1] at hfw; omega
        rw [hw1] at hma hmr hfw
        have hpq : preR w bk l a b ↔ (¬ w.getD a 0 = 46 ∧ w.getD b 0 = 46 ∧ (bk = true ∨ w.getD a 0 = 84) ∧ (l = true ∨ ¬ 2 < ((b : Int) - a) * 1)) := by
          unfold preR
          have e1 : (w.getD a 0 = 84 ↔ ¬ b < a) ↔ w.getD a 0 = 84 := by simp [hd]
          have e2 : farS ((a : Int), (b : Int)) ≤ 2 ↔ ¬ 2 < ((b : Int) - a) * 1 := by omega
          rw [e1, e2]
        generalize farS ((a : Int), (b : Int)) = F at *
        by_cases hp : preR w bk l a b
        · have hpc := hpq.1 hp
          have hyes : (∀ k : Nat, 1 ≤ k → k < F → midOk w o ((a : Int), (b : Int)) k = true) → rcF w o bk l ((a : Int), (b : Int)) = true := fun h => hrc.2 ⟨hp, h⟩
          have hno : ∀ k : Nat, 1 ≤ k → k < F → midOk w o ((a : Int), (b : Int)) k = false → rcF w o bk l ((a : Int), (b : Int)) = false := fun k hk1 hk2 hk3 => by
            cases hr : rcF w o bk l ((a : Int), (b : Int)) with
            | false => rfl
            | true => have := (hrc.1 hr).2 k hk1 hk2; rw [hk3] at this; cases this
          clear hrc hpno hpq hp
          generalize rcF w o bk l ((a : Int), (b : Int)) = R at *
          generalize midOk w o ((a : Int), (b : Int)) = mk at *
          refine Spec.of_wpx tt_ok Tryd.func70 (by kernel_rfl) rfl ?_
          (repeat' ((conv => whnf); first | refine CondVC.t ?_ | refine CondVC.f ?_ | refine CondVC.dec (fun h => ?_) (fun h => ?_) | refine CondVC.ndec (fun h => ?_) (fun h => ?_) | refine CondVC.mk (fun h => ?_) (fun h => ?_) | refine ArVC.i64 (by first | omega | (simp only; omega)) ?_ | refine SideVC.mk (by first | omega | decide | (simp only; omega) | (simp [slS]; done) | (simp [slS]; omega) | (simp only [byteE_len, mvE_len, strE_len, intE_len, esC_len, List.length_cons, List.length_nil, List.length_append, List.length_replicate, List.length_set, Int.toNat_natCast, and_true] at *; omega)) ?_ | refine LoopN.go ?_ | exact trivial | refine AltVC.mk ?_ ?_ | refine HeldVC.mk rfl ?_ | refine CallVC.pure h1 rfl ?_ | refine CallVC.pure h2 rfl ?_ | refine OpVC.more tt_ok ?_ | refine RestVC.ext tt_ok ?_)); all_goals (conv => whnf)
          all_goals simp only [hga, hgb, u8_inj, u8_84, u8_46] at *
          all_goals (generalize hx : w.getD a 0 = x at *; generalize hy : w.getD b 0 = y at *)
          all_goals first
            | (exfalso; omega)
            | (exfalso; clear h1 h2 hma hmr hyes hno hfw hF hw1 hx hy; simp_all; done)
            | skip
          all_goals
            refine LoopVC.mk (G := Nat) (fun k => ⟨[(9, .v (i64 ((k : Int) + 1))), (8, .v (i64 (F : Nat))), (7, .v (i64 (1))), (5, .v (.c (.ptr 5 0))), (4, .v (.c (.ptr 4 0))), (0, .v (.c (.str w)))],
                [(5, .box 31 [.bool o, .bool bk, .bool l]), (4, .box 33 [.int .i64 (a : Int), .int .i64 (b : Int)])]⟩)
              (fun k => k ≤ F ∧ ∀ j : Nat, 1 ≤ j → j ≤ k → mk j = true) (fun k => F - k) 0 ⟨Nat.zero_le _, fun j h1 h2 => by omega⟩ (Sub.mk [] [] ⟨rfl, congrArg (fun z => some (E.v (i64 z))) hF.symm, rfl, rfl, rfl, rfl, trivial⟩ rfl rfl) ?_
            intro k ⟨hk, hall⟩
            by_cases hlt : k + 1 < F
            · have hr := hmr (k + 1) hlt
              have hm := hma (k + 1) hlt
              have hnk := hno (k + 1) (by omega) hlt
              rw [show ((k + 1 : Nat) : Int) = (k : Int) + 1 by omega] at hr hm
              clear hma hmr hyes hno
              cases hmk : mk (k + 1) with
              | true =>
                rw [hmk] at hm
                have hm2 : ¬ (w.getD ((a : Int) + ((k : Int) + 1) * 1).toNat 0) = 46 ∧ (o = true ∨ ¬ (w.getD ((a : Int) + ((k : Int) + 1) * 1).toNat 0) = x) := by
                  have := hm.symm
                  simp only [Bool.and_eq_true, Bool.or_eq_true, decide_eq_true_eq] at this
                  exact this
                clear hm
                have hga : w.getD (a : Int).toNat 0 = x := by rw [Int.toNat_natCast, hx]
                have hm3 : ¬ (((w.getD ((a : Int) + ((k : Int) + 1) * 1).toNat 0).toNat : Nat) : Int) = 46 ∧ (o = true ∨ ¬ (((w.getD ((a : Int) + ((k : Int) + 1) * 1).toNat 0).toNat : Nat) : Int) = (((w.getD (a : Int).toNat 0).toNat : Nat) : Int)) := by rw [u8_46, u8_inj, hga]; exact hm2
                clear hga hm2
                obtain ⟨hm3, hm4⟩ := hm3
                cases o <;> simp only [Bool.false_eq_true, false_or, true_or] at hm4
                all_goals (repeat' ((conv => whnf); first | refine CondVC.t ?_ | refine CondVC.f ?_ | refine CondVC.dec (fun h => ?_) (fun h => ?_) | refine CondVC.ndec (fun h => ?_) (fun h => ?_) | refine CondVC.mk (fun h => ?_) (fun h => ?_) | refine ArVC.i64 (by first | omega | (simp only; omega)) ?_ | refine SideVC.mk (by first | omega | decide | (simp only; omega) | (simp [slS]; done) | (simp [slS]; omega) | (simp only [byteE_len, mvE_len, strE_len, intE_len, esC_len, List.length_cons, List.length_nil, List.length_append, List.length_replicate, List.length_set, Int.toNat_natCast, and_true] at *; omega)) ?_ | refine LoopN.go ?_ | exact trivial | refine AltVC.mk ?_ ?_ | refine HeldVC.mk rfl ?_ | refine OpVC.more tt_ok ?_ | refine RestVC.ext tt_ok ?_)); all_goals (conv => whnf)
                all_goals first
                  | (exfalso; omega)
                  | exact ⟨k + 1, ⟨by omega, fun j hj1 hj2 => by
                      by_cases ej : j = k + 1
                      · subst ej; exact hmk
                      · exact hall j hj1 (by omega)⟩, by omega, Sub.mk [] _ ⟨congrArg (fun z => some (E.v (i64 z))) (by omega), rfl, rfl, rfl, rfl, rfl, trivial⟩ rfl rfl⟩
                  | (exfalso; clear h1 h2 hw1; simp_all; done)
              | false =>
                rw [hmk] at hm
                have hm2 : (w.getD ((a : Int) + ((k : Int) + 1) * 1).toNat 0) = 46 ∨ (o = false ∧ (w.getD ((a : Int) + ((k : Int) + 1) * 1).toNat 0) = x) := by
                  have := hm.symm
                  simp only [Bool.and_eq_false_iff, Bool.or_eq_false_iff, decide_eq_false_iff_not, Classical.not_not] at this
                  exact this
                clear hm
                rw [hnk hmk]
                clear hnk
                have hga : w.getD (a : Int).toNat 0 = x := by rw [Int.toNat_natCast, hx]
                have hm3 : (((w.getD ((a : Int) + ((k : Int) + 1) * 1).toNat 0).toNat : Nat) : Int) = 46 ∨ (o = false ∧ (((w.getD ((a : Int) + ((k : Int) + 1) * 1).toNat 0).toNat : Nat) : Int) = (((w.getD (a : Int).toNat 0).toNat : Nat) : Int)) := by rw [u8_46, u8_inj, hga]; exact hm2
                clear hga hm2
                cases o <;> simp only [Bool.true_eq_false, false_and, or_false, true_and] at hm3
                all_goals (repeat' ((conv => whnf); first | refine CondVC.t ?_ | refine CondVC.f ?_ | refine CondVC.dec (fun h => ?_) (fun h => ?_) | refine CondVC.ndec (fun h => ?_) (fun h => ?_) | refine CondVC.mk (fun h => ?_) (fun h => ?_) | refine ArVC.i64 (by first | omega | (simp only; omega)) ?_ | refine SideVC.mk (by first | omega | decide | (simp only; omega) | (simp [slS]; done) | (simp [slS]; omega) | (simp only [byteE_len, mvE_len, strE_len, intE_len, esC_len, List.length_cons, List.length_nil, List.length_append, List.length_replicate, List.length_set, Int.toNat_natCast, and_true] at *; omega)) ?_ | refine LoopN.go ?_ | exact trivial | refine AltVC.mk ?_ ?_ | refine HeldVC.mk rfl ?_ | refine OpVC.more tt_ok ?_ | refine RestVC.ext tt_ok ?_)); all_goals (conv => whnf)
                all_goals first
                  | (exfalso; omega)
                  | exact RetVC.res rfl rfl
                  | (exfalso; clear h1 h2 hw1; simp_all; done)
            · rw [hyes fun j hj1 hj2 => hall j hj1 (by omega)]
              (repeat' ((conv => whnf); first | refine CondVC.t ?_ | refine CondVC.f ?_ | refine CondVC.dec (fun h => ?_) (fun h => ?_) | refine CondVC.ndec (fun h => ?_) (fun h => ?_) | refine CondVC.mk (fun h => ?_) (fun h => ?_) | refine ArVC.i64 (by first | omega | (simp only; omega)) ?_ | refine SideVC.mk (by first | omega | decide | (simp only; omega) | (simp [slS]; done) | (simp [slS]; omega) | (simp only [byteE_len, mvE_len, strE_len, intE_len, esC_len, List.length_cons, List.length_nil, List.length_append, List.length_replicate, List.length_set, Int.toNat_natCast, and_true] at *; omega)) ?_ | refine LoopN.go ?_ | exact trivial | refine AltVC.mk ?_ ?_ | refine HeldVC.mk rfl ?_ | refine OpVC.more tt_ok ?_ | refine RestVC.ext tt_ok ?_)); all_goals (conv => whnf)
              all_goals first
                | (exfalso; omega)
                | exact RetVC.res rfl rfl
        · rw [hpno hp]
          rw [hpq] at hp
          clear hrc hma hmr hpno hpq hfw hF
          refine Spec.of_wpx tt_ok Tryd.func70 (by kernel_rfl) rfl ?_
          (repeat' ((conv => whnf); first | refine CondVC.t ?_ | refine CondVC.f ?_ | refine CondVC.dec (fun h => ?_) (fun h => ?_) | refine CondVC.ndec (fun h => ?_) (fun h => ?_) | refine CondVC.mk (fun h => ?_) (fun h => ?_) | refine ArVC.i64 (by first | omega | (simp only; omega)) ?_ | refine SideVC.mk (by first | omega | decide | (simp only; omega) | (simp [slS]; done) | (simp [slS]; omega) | (simp only [byteE_len, mvE_len, strE_len, intE_len, esC_len, List.length_cons, List.length_nil, List.length_append, List.length_replicate, List.length_set, Int.toNat_natCast, and_true] at *; omega)) ?_ | refine LoopN.go ?_ | exact trivial | refine AltVC.mk ?_ ?_ | refine HeldVC.mk rfl ?_ | refine CallVC.pure h1 rfl ?_ | refine CallVC.pure h2 rfl ?_ | refine OpVC.more tt_ok ?_ | refine RestVC.ext tt_ok ?_)); all_goals (conv => whnf)
          all_goals simp only [hga, hgb, u8_inj, u8_84, u8_46] at *
          all_goals (generalize w.getD a 0 = x at *; generalize w.getD b 0 = y at *)
          all_goals first
            | exact RetVC.res rfl rfl
            | (exfalso; omega)
            | (exfalso; clear h1 h2 hw1; simp_all; done)
    · rw [decide_eq_true c1] at h1
      rw [decide_eq_false c2] at h2
      rw [rc_out (.inr c2)]
      refine Spec.of_wpx tt_ok Tryd.func70 (by kernel_rfl) rfl ?_
      (repeat' ((conv => whnf); first | refine CondVC.t ?_ | refine CondVC.f ?_ | refine CondVC.dec (fun h => ?_) (fun h => ?_) | refine CondVC.ndec (fun h => ?_) (fun h => ?_) | refine CondVC.mk (fun h => ?_) (fun h => ?_) | refine ArVC.i64 (by first | omega | (simp only; omega)) ?_ | refine SideVC.mk (by first | omega | decide | (simp only; omega) | (simp [slS]; done) | (simp [slS]; omega) | (simp only [byteE_len, mvE_len, strE_len, intE_len, esC_len, List.length_cons, List.length_nil, List.length_append, List.length_replicate, List.length_set, Int.toNat_natCast, and_true] at *; omega)) ?_ | refine LoopN.go ?_ | exact trivial | refine AltVC.mk ?_ ?_ | refine HeldVC.mk rfl ?_ | refine CallVC.pure h1 rfl ?_ | refine CallVC.pure h2 rfl ?_ | refine OpVC.more tt_ok ?_ | refine RestVC.ext tt_ok ?_)); all_goals (conv => whnf)
      all_goals first | exact RetVC.res rfl rfl | (exfalso; omega)
  · rw [decide_eq_false c1] at h1
    rw [rc_out (.inl c1)]
    refine Spec.of_wpx tt_ok Tryd.func70 (by kernel_rfl) rfl ?_
    (repeat' ((conv => whnf); first | refine CondVC.t ?_ | refine CondVC.f ?_ | refine CondVC.dec (fun h => ?_) (fun h => ?_) | refine CondVC.ndec (fun h => ?_) (fun h => ?_) | refine CondVC.mk (fun h => ?_) (fun h => ?_) | refine ArVC.i64 (by first | omega | (simp only; omega)) ?_ | refine SideVC.mk (by first | omega | decide | (simp only; omega) | (simp [slS]; done) | (simp [slS]; omega) | (simp only [byteE_len, mvE_len, strE_len, intE_len, esC_len, List.length_cons, List.length_nil, List.length_append, List.length_replicate, List.length_set, Int.toNat_natCast, and_true] at *; omega)) ?_ | refine LoopN.go ?_ | exact trivial | refine AltVC.mk ?_ ?_ | refine HeldVC.mk rfl ?_ | refine CallVC.pure h1 rfl ?_ | refine CallVC.pure h2 rfl ?_ | refine OpVC.more tt_ok ?_ | refine RestVC.ext tt_ok ?_)); all_goals (conv => whnf)
    all_goals first | exact RetVC.res rfl rfl | (exfalso; omega)
end Go.Proofs.YtaidpalamhmghaaDoor.X
