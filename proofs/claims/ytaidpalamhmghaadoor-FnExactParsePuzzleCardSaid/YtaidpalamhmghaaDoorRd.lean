/- spec.l1Read: the number that a text of digits spells. No condition beyond the statement's. -/
import Derived.Test.YtaidpalamhmghaaDoorPp
namespace Go.Proofs.YtaidpalamhmghaaDoor.X
open Go.Proofs
set_option maxRecDepth 100000
set_option linter.unusedVariables false
set_option linter.unusedSimpArgs false
def digB (b : UInt8) : Bool := decide (48 ≤ b.toNat ∧ b.toNat ≤ 57)
def valD (s : Tx) : Int := s.foldl (fun (n : Int) (b : UInt8) => 10 * n + ((b.toNat : Int) - 48)) 0
theorem valD_snoc (s : Tx) (b : UInt8) : valD (s ++ [b]) = 10 * valD s + ((b.toNat : Int) - 48) := by simp [valD]
theorem valD_bound : ∀ (k : Nat) (s : Tx), s.length = k → (∀ b ∈ s, digB b = true) → k ≤ 6 → 0 ≤ valD s ∧ valD s + 1 ≤ 10 ^ k
  | 0, s, h, _, _ => by obtain rfl := List.length_eq_zero_iff.1 h; simp [valD]
  | k + 1, s, h, hd, hk => by
    have hne : s ≠ [] := by intro e; subst e; simp at h
    obtain ⟨s', b, rfl⟩ : ∃ s' b, s = s' ++ [b] := ⟨s.dropLast, s.getLast hne, (List.dropLast_concat_getLast hne).symm⟩
    have h1 := valD_bound k s' (by simpa using h) (fun c hc => hd c (by simp [hc])) (by omega)
    have h2 : digB b = true := hd b (by simp)
    simp only [digB, decide_eq_true_eq] at h2
    rw [valD_snoc]
    have : (10 : Int) ^ (k + 1) = 10 * 10 ^ k := by rw [Int.pow_succ, Int.mul_comm]
    omega
def rdF (s : Tx) : Int := if (1 ≤ s.length ∧ s.length ≤ 6) ∧ ¬ ((((s.getD 0 0).toNat : Nat) : Int) = 48 ∧ (1 : Int) < (s.length : Nat)) ∧ s.all digB = true then valD s else -1

theorem l1Read_spec (s : Tx) (hs : s.length ≤ 1000000) : Spec Tryd.prog 101 [.c (.str s)] [] (isRes [i64 (rdF s)] []) := by
  have h1 := l1In_spec (s.length : Nat) 1 6
  by_cases hlen : 1 ≤ s.length ∧ s.length ≤ 6
  · have e : decide ((1 : Int) ≤ ((s.length : Nat) : Int) ∧ ((s.length : Nat) : Int) ≤ 6) = true := by rw [decide_eq_true_eq]; omega
    rw [e] at h1
    by_cases hz : (((s.getD 0 0).toNat : Nat) : Int) = 48 ∧ (1 : Int) < (s.length : Nat)
    · have hr : rdF s = -1 := by unfold rdF; rw [if_neg (fun h => h.2.1 hz)]
      rw [hr]
      obtain ⟨z1, z2⟩ := hz
      refine Spec.of_wpx tt_ok Tryd.func101 (by kernel_rfl) rfl ?_
      (repeat' ((conv => whnf); first | refine CondVC.t ?_ | refine CondVC.f ?_ | refine CondVC.dec (fun h => ?_) (fun h => ?_) | refine CondVC.ndec (fun h => ?_) (fun h => ?_) | refine CondVC.mk (fun h => ?_) (fun h => ?_) | refine ArVC.i64 (by first | omega | (simp only; omega)) ?_ | refine SideVC.mk (by first | omega | decide | (simp only; omega) | (simp [slS]; done) | (simp [slS]; omega) | (simp only [byteE_len, mvE_len, strE_len, intE_len, esC_len, List.length_cons, List.length_nil, List.length_append, List.length_replicate, List.length_set, Int.toNat_natCast, and_true] at *; omega)) ?_ | refine LoopN.go ?_ | exact trivial | refine AltVC.mk ?_ ?_ | refine HeldVC.mk rfl ?_ | refine CallVC.pure h1 rfl ?_ | refine OpVC.more tt_ok ?_ | refine RestVC.ext tt_ok ?_)); all_goals (conv => whnf)
      all_goals first | exact RetVC.res rfl rfl | (exfalso; simp_all; done) | (exfalso; simp_all; omega)
    · generalize hrr : rdF s = r
      refine Spec.of_wpx tt_ok Tryd.func101 (by kernel_rfl) rfl ?_
      (repeat' ((conv => whnf); first | refine CondVC.t ?_ | refine CondVC.f ?_ | refine CondVC.dec (fun h => ?_) (fun h => ?_) | refine CondVC.ndec (fun h => ?_) (fun h => ?_) | refine CondVC.mk (fun h => ?_) (fun h => ?_) | refine ArVC.i64 (by first | omega | (simp only; omega)) ?_ | refine SideVC.mk (by first | omega | decide | (simp only; omega) | (simp [slS]; done) | (simp [slS]; omega) | (simp only [byteE_len, mvE_len, strE_len, intE_len, esC_len, List.length_cons, List.length_nil, List.length_append, List.length_replicate, List.length_set, Int.toNat_natCast, and_true] at *; omega)) ?_ | refine LoopN.go ?_ | exact trivial | refine AltVC.mk ?_ ?_ | refine HeldVC.mk rfl ?_ | refine CallVC.pure h1 rfl ?_ | refine OpVC.more tt_ok ?_ | refine RestVC.ext tt_ok ?_)); all_goals (conv => whnf)
      all_goals first
        | (exfalso; simp_all; done)
        | refine LoopVC.mk (G := Nat) (fun i => ⟨[(4, .v (i64 i)), (3, .v (i64 (valD (s.take i)))), (0, .v (.c (.str s)))], []⟩)
            (fun i => i ≤ s.length ∧ ∀ b ∈ s.take i, digB b = true) (fun i => s.length - i) 0 ⟨Nat.zero_le _, fun b hb => by simp at hb⟩ (Sub.mk [] _ ⟨rfl, rfl, rfl, trivial⟩ rfl rfl) ?_
      all_goals
        rintro i ⟨hi, hd⟩
        by_cases hil : i < s.length
        ·
          have hst : s.take (i + 1) = s.take i ++ [s.getD ((i : Int).toNat) 0] := by
            rw [Int.toNat_natCast, List.take_succ_eq_append_getElem hil, List.getD_eq_getElem?_getD, List.getElem?_eq_getElem hil]; rfl
          have hmem : s.getD ((i : Int).toNat) 0 ∈ s := by
            rw [Int.toNat_natCast, List.getD_eq_getElem?_getD, List.getElem?_eq_getElem hil]; exact List.getElem_mem hil
          obtain ⟨v0, v1⟩ := valD_bound i (s.take i) (by simp; omega) hd (by omega)
          have hv6 : valD (s.take i) ≤ 1000000 := by
            have : (10 : Int) ^ i ≤ 10 ^ 6 := by exact_mod_cast Nat.pow_le_pow_right (by decide) (by omega)
            omega
          have hvs := valD_snoc (s.take i) (s.getD ((i : Int).toNat) 0)
          rw [← hst] at hvs
          have hb1 : (s.getD ((i : Int).toNat) 0).toNat < 256 := (s.getD ((i : Int).toNat) 0).toNat_lt
          by_cases hdg : digB (s.getD ((i : Int).toNat) 0) = true
          · have hdg' := hdg
            simp only [digB, decide_eq_true_eq] at hdg'
            have hall : ∀ b ∈ s.take (i + 1), digB b = true := fun b hb => by
              rw [hst] at hb
              rcases List.mem_append.1 hb with hb | hb
              · exact hd b hb
              · rw [List.mem_singleton] at hb; rw [hb]; exact hdg
            have hwr : IntKind.u8.wrap (((s.getD ((i : Int).toNat) 0).toNat : Int) - 48) = ((s.getD ((i : Int).toNat) 0).toNat : Int) - 48 := by
              show IntKind.wrap .u8 _ = _
              unfold IntKind.wrap
              simp only [IntKind.bits, IntKind.signed, Bool.false_and, Bool.false_eq_true, if_false]
              omega
            clear hst hmem
            generalize hVV : valD (s.take i) = V at *
            (repeat' ((conv => whnf); first | refine CondVC.t ?_ | refine CondVC.f ?_ | refine CondVC.dec (fun h => ?_) (fun h => ?_) | refine CondVC.ndec (fun h => ?_) (fun h => ?_) | refine CondVC.mk (fun h => ?_) (fun h => ?_) | refine ArVC.i64 (by first | omega | (simp only; omega)) ?_ | refine SideVC.mk (by first | omega | decide | (simp only; omega) | (simp [slS]; done) | (simp [slS]; omega) | (simp only [byteE_len, mvE_len, strE_len, intE_len, esC_len, List.length_cons, List.length_nil, List.length_append, List.length_replicate, List.length_set, Int.toNat_natCast, and_true] at *; omega)) ?_ | refine LoopN.go ?_ | exact trivial | refine AltVC.mk ?_ ?_ | refine HeldVC.mk rfl ?_ | refine ArVC.fit hwr ?_ | refine OpVC.more tt_ok ?_ | refine RestVC.ext tt_ok ?_)); all_goals (conv => whnf)
            all_goals first | (exfalso; omega) | exact ⟨i + 1, ⟨by omega, hall⟩, by omega, Sub.mk [] _ ⟨rfl, congrArg (fun z => some (E.v (i64 z))) hvs.symm, rfl, trivial⟩ rfl rfl⟩
          · have hr : r = -1 := by
              rw [← hrr]; unfold rdF; rw [if_neg (fun h => hdg (List.all_eq_true.1 h.2.2 _ hmem))]
            have hdg' : ¬ (48 ≤ (s.getD ((i : Int).toNat) 0).toNat ∧ (s.getD ((i : Int).toNat) 0).toNat ≤ 57) := fun h => hdg (by simp only [digB, decide_eq_true_eq]; exact h)
            rw [hr]
            (repeat' ((conv => whnf); first | refine CondVC.t ?_ | refine CondVC.f ?_ | refine CondVC.dec (fun h => ?_) (fun h => ?_) | refine CondVC.ndec (fun h => ?_) (fun h => ?_) | refine CondVC.mk (fun h => ?_) (fun h => ?_) | refine ArVC.i64 (by first | omega | (simp only; omega)) ?_ | refine SideVC.mk (by first | omega | decide | (simp only; omega) | (simp [slS]; done) | (simp [slS]; omega) | (simp only [byteE_len, mvE_len, strE_len, intE_len, esC_len, List.length_cons, List.length_nil, List.length_append, List.length_replicate, List.length_set, Int.toNat_natCast, and_true] at *; omega)) ?_ | refine LoopN.go ?_ | exact trivial | refine AltVC.mk ?_ ?_ | refine HeldVC.mk rfl ?_ | refine OpVC.more tt_ok ?_ | refine RestVC.ext tt_ok ?_)); all_goals (conv => whnf)
            all_goals first | exact RetVC.res rfl rfl | (exfalso; omega)
        · have e : i = s.length := by omega
          subst e
          rw [List.take_length] at hd ⊢
          have hr : r = valD s := by
            rw [← hrr]; unfold rdF; rw [if_pos ⟨hlen, hz, List.all_eq_true.2 hd⟩]
          rw [hr]
          (repeat' ((conv => whnf); first | refine CondVC.t ?_ | refine CondVC.f ?_ | refine CondVC.dec (fun h => ?_) (fun h => ?_) | refine CondVC.ndec (fun h => ?_) (fun h => ?_) | refine CondVC.mk (fun h => ?_) (fun h => ?_) | refine ArVC.i64 (by first | omega | (simp only; omega)) ?_ | refine SideVC.mk (by first | omega | decide | (simp only; omega) | (simp [slS]; done) | (simp [slS]; omega) | (simp only [byteE_len, mvE_len, strE_len, intE_len, esC_len, List.length_cons, List.length_nil, List.length_append, List.length_replicate, List.length_set, Int.toNat_natCast, and_true] at *; omega)) ?_ | refine LoopN.go ?_ | exact trivial | refine AltVC.mk ?_ ?_ | refine HeldVC.mk rfl ?_ | refine OpVC.more tt_ok ?_ | refine RestVC.ext tt_ok ?_)); all_goals (conv => whnf)
          all_goals first | exact RetVC.res rfl rfl | (exfalso; omega)
  · have e : decide ((1 : Int) ≤ ((s.length : Nat) : Int) ∧ ((s.length : Nat) : Int) ≤ 6) = false := by rw [decide_eq_false_iff_not]; omega
    rw [e] at h1
    have hr : rdF s = -1 := by unfold rdF; rw [if_neg (fun h => hlen h.1)]
    rw [hr]
    refine Spec.of_wpx tt_ok Tryd.func101 (by kernel_rfl) rfl ?_
    (repeat' ((conv => whnf); first | refine CondVC.t ?_ | refine CondVC.f ?_ | refine CondVC.dec (fun h => ?_) (fun h => ?_) | refine CondVC.ndec (fun h => ?_) (fun h => ?_) | refine CondVC.mk (fun h => ?_) (fun h => ?_) | refine ArVC.i64 (by first | omega | (simp only; omega)) ?_ | refine SideVC.mk (by first | omega | decide | (simp only; omega) | (simp [slS]; done) | (simp [slS]; omega) | (simp only [byteE_len, mvE_len, strE_len, intE_len, esC_len, List.length_cons, List.length_nil, List.length_append, List.length_replicate, List.length_set, Int.toNat_natCast, and_true] at *; omega)) ?_ | refine LoopN.go ?_ | exact trivial | refine AltVC.mk ?_ ?_ | refine HeldVC.mk rfl ?_ | refine CallVC.pure h1 rfl ?_ | refine OpVC.more tt_ok ?_ | refine RestVC.ext tt_ok ?_)); all_goals (conv => whnf)
    all_goals exact RetVC.res rfl rfl
end Go.Proofs.YtaidpalamhmghaaDoor.X
