/- Moves by rules: both functions' walks. No condition beyond each statement's. -/
import Derived.Test.YtaidpalamhmghaaDoorRuF
import Derived.Test.YtaidpalamhmghaaDoorRule
import Derived.Test.YtaidpalamhmghaaDoorMv2
import Derived.Test.YtaidpalamhmghaaDoorQuietB
import Derived.Test.YtaidpalamhmghaaDoorMm
namespace Go.Proofs.YtaidpalamhmghaaDoor.X
open Go.Proofs
set_option maxRecDepth 100000
set_option linter.unusedVariables false
set_option linter.unusedSimpArgs false
/-! ### The program's goals -/
def gbOk (w : Tx) (o l : Bool) (i : Nat) (d : Int) : Bool := decide (atF w (i + ((stK w o i d : Nat) + 1) * d) = 46) && (decide (stK w o i d ≤ 1) || l)
set_option maxHeartbeats 4000000 in
theorem goalBy_spec (w : Tx) (i : Nat) (d : Int) (o bk l : Bool) (hi : i < w.length) (hs : stepF (w.getD i 0) ≠ 0) (hd : d = 1 ∨ d = -1) (hw : w.length ≤ 1000) :
    Spec Tryd.prog 116 [.c (.str w), i64 i, i64 d, ruleV o bk l] [] (isRes [i64 (i + ((stK w o i d : Nat) + 1) * d), vb (gbOk w o l i d)] []) := by
  have hat : atF w i = w.getD i 0 := (getD_atF hi).symm
  obtain ⟨hK, hno, hyes⟩ := stK_stop (w := w) (o := o) (i := i) (d := d) (by rw [hat]; exact hs) hd
  unfold passF at hno hyes
  rw [hat] at hno
  rw [hat] at hyes
  unfold gbOk
  generalize stK w o i d = K at *
  have hot := other_spec (w.getD i 0)
  have hatk : ∀ t : Int, _ := fun t => at_spec w t
  generalize otherF (w.getD i 0) = B' at *
  have hgi : w.getD (i : Int).toNat 0 = w.getD i 0 := by rw [Int.toNat_natCast]
  rcases hd with rfl | rfl
  · refine Spec.of_wpx tt_ok Tryd.func116 (by kernel_rfl) rfl ?_
    (repeat' ((conv => whnf); first | refine CondVC.t ?_ | refine CondVC.f ?_ | refine CondVC.dec (fun h => ?_) (fun h => ?_) | refine CondVC.ndec (fun h => ?_) (fun h => ?_) | refine CondVC.mk (fun h => ?_) (fun h => ?_) | refine ArVC.i64 (by first | omega | (simp only; omega)) ?_ | refine SideVC.mk (by first | omega | decide | (simp only; omega) | (simp [slS]; done) | (simp [slS]; omega) | (simp only [byteE_len, mvE_len, strE_len, intE_len, esC_len, List.length_cons, List.length_nil, List.length_append, List.length_replicate, List.length_set, Int.toNat_natCast, and_true] at *; omega)) ?_ | refine LoopN.go ?_ | exact trivial | refine AltVC.mk ?_ ?_ | refine HeldVC.mk rfl ?_ | refine OpVC.more tt_ok ?_ | refine RestVC.ext tt_ok ?_)); all_goals (conv => whnf)
    refine LoopVC.mk (G := Nat) (fun k => ⟨[(10, .v (i64 (i + ((k : Int) + 1) * 1))), (7, .v (.c (.ptr 7 0))), (2, .v (i64 1)), (1, .v (i64 i)), (0, .v (.c (.str w)))], [(7, .box 31 [.bool o, .bool bk, .bool l])]⟩)
      (fun k => k ≤ K) (fun k => K - k) 0 (Nat.zero_le _) (Sub.mk [] [] ⟨congrArg (fun z => some (E.v (i64 z))) (by simp), rfl, rfl, rfl, rfl, trivial⟩ rfl rfl) ?_
    intro k hk
    have h1 := hatk (i + ((k : Int) + 1) * 1)
    by_cases hlt : k < K
    · have hp := hyes k hlt
      generalize atF w (i + ((k : Int) + 1) * 1) = A at *
      (repeat' ((conv => whnf); first | refine CondVC.t ?_ | refine CondVC.f ?_ | refine CondVC.dec (fun h => ?_) (fun h => ?_) | refine CondVC.ndec (fun h => ?_) (fun h => ?_) | refine CondVC.mk (fun h => ?_) (fun h => ?_) | refine ArVC.i64 (by first | omega | (simp only; omega)) ?_ | refine SideVC.mk (by first | omega | decide | (simp only; omega) | (simp [slS]; done) | (simp [slS]; omega) | (simp only [byteE_len, mvE_len, strE_len, intE_len, esC_len, List.length_cons, List.length_nil, List.length_append, List.length_replicate, List.length_set, Int.toNat_natCast, and_true] at *; omega)) ?_ | refine LoopN.go ?_ | exact trivial | refine AltVC.mk ?_ ?_ | refine HeldVC.mk rfl ?_ | refine DrawVC.quiet tt_ok (by kernel_rfl) (by kernel_rfl) ?_ | refine QCallVC.pure h1 rfl ?_ | refine QCallVC.pure hot rfl ?_ | refine OpVC.more tt_ok ?_ | refine RestVC.ext tt_ok ?_)); all_goals (conv => whnf)
      all_goals simp only [hgi, u8_inj, u8_46, Bool.or_eq_true, Bool.and_eq_true, decide_eq_true_eq] at *
      all_goals first
        | exact ⟨k + 1, hlt, by omega, Sub.mk [] _ ⟨congrArg (fun z => some (E.v (i64 z))) (by push_cast; omega), rfl, rfl, rfl, rfl, trivial⟩ rfl rfl⟩
        | (exfalso; simp_all; done)
    · obtain rfl : k = K := by omega
      generalize atF w (i + ((k : Int) + 1) * 1) = A at *
      by_cases c1 : A = 46 <;> by_cases c2 : k ≤ 1 <;> cases l
      all_goals
        (repeat' ((conv => whnf); first | refine CondVC.t ?_ | refine CondVC.f ?_ | refine CondVC.dec (fun h => ?_) (fun h => ?_) | refine CondVC.ndec (fun h => ?_) (fun h => ?_) | refine CondVC.mk (fun h => ?_) (fun h => ?_) | refine ArVC.i64 (by first | omega | (simp only; omega)) ?_ | refine SideVC.mk (by first | omega | decide | (simp only; omega) | (simp [slS]; done) | (simp [slS]; omega) | (simp only [byteE_len, mvE_len, strE_len, intE_len, esC_len, List.length_cons, List.length_nil, List.length_append, List.length_replicate, List.length_set, Int.toNat_natCast, and_true] at *; omega)) ?_ | refine LoopN.go ?_ | exact trivial | refine AltVC.mk ?_ ?_ | refine HeldVC.mk rfl ?_ | refine DrawVC.quiet tt_ok (by kernel_rfl) (by kernel_rfl) ?_ | refine QCallVC.pure h1 rfl ?_ | refine QCallVC.pure hot rfl ?_ | refine OpVC.more tt_ok ?_ | refine RestVC.ext tt_ok ?_)); all_goals (conv => whnf)
        all_goals simp only [hgi, u8_inj, u8_46, Bool.or_eq_true, Bool.and_eq_true, decide_eq_true_eq] at *
        all_goals first
          | (exfalso; omega)
          | exact absurd c1 (by assumption)
          | (exfalso; clear hyes hatk hot h1; simp_all; done)
          | exact RetVC.res (by simp [vb, i64, c1, c2]) rfl
  · refine Spec.of_wpx tt_ok Tryd.func116 (by kernel_rfl) rfl ?_
    (repeat' ((conv => whnf); first | refine CondVC.t ?_ | refine CondVC.f ?_ | refine CondVC.dec (fun h => ?_) (fun h => ?_) | refine CondVC.ndec (fun h => ?_) (fun h => ?_) | refine CondVC.mk (fun h => ?_) (fun h => ?_) | refine ArVC.i64 (by first | omega | (simp only; omega)) ?_ | refine SideVC.mk (by first | omega | decide | (simp only; omega) | (simp [slS]; done) | (simp [slS]; omega) | (simp only [byteE_len, mvE_len, strE_len, intE_len, esC_len, List.length_cons, List.length_nil, List.length_append, List.length_replicate, List.length_set, Int.toNat_natCast, and_true] at *; omega)) ?_ | refine LoopN.go ?_ | exact trivial | refine AltVC.mk ?_ ?_ | refine HeldVC.mk rfl ?_ | refine OpVC.more tt_ok ?_ | refine RestVC.ext tt_ok ?_)); all_goals (conv => whnf)
    refine LoopVC.mk (G := Nat) (fun k => ⟨[(10, .v (i64 (i + ((k : Int) + 1) * (-1)))), (7, .v (.c (.ptr 7 0))), (2, .v (i64 (-1))), (1, .v (i64 i)), (0, .v (.c (.str w)))], [(7, .box 31 [.bool o, .bool bk, .bool l])]⟩)
      (fun k => k ≤ K) (fun k => K - k) 0 (Nat.zero_le _) (Sub.mk [] [] ⟨congrArg (fun z => some (E.v (i64 z))) (by simp), rfl, rfl, rfl, rfl, trivial⟩ rfl rfl) ?_
    intro k hk
    have h1 := hatk (i + ((k : Int) + 1) * (-1))
    by_cases hlt : k < K
    · have hp := hyes k hlt
      generalize atF w (i + ((k : Int) + 1) * (-1)) = A at *
      (repeat' ((conv => whnf); first | refine CondVC.t ?_ | refine CondVC.f ?_ | refine CondVC.dec (fun h => ?_) (fun h => ?_) | refine CondVC.ndec (fun h => ?_) (fun h => ?_) | refine CondVC.mk (fun h => ?_) (fun h => ?_) | refine ArVC.i64 (by first | omega | (simp only; omega)) ?_ | refine SideVC.mk (by first | omega | decide | (simp only; omega) | (simp [slS]; done) | (simp [slS]; omega) | (simp only [byteE_len, mvE_len, strE_len, intE_len, esC_len, List.length_cons, List.length_nil, List.length_append, List.length_replicate, List.length_set, Int.toNat_natCast, and_true] at *; omega)) ?_ | refine LoopN.go ?_ | exact trivial | refine AltVC.mk ?_ ?_ | refine HeldVC.mk rfl ?_ | refine DrawVC.quiet tt_ok (by kernel_rfl) (by kernel_rfl) ?_ | refine QCallVC.pure h1 rfl ?_ | refine QCallVC.pure hot rfl ?_ | refine OpVC.more tt_ok ?_ | refine RestVC.ext tt_ok ?_)); all_goals (conv => whnf)
      all_goals simp only [hgi, u8_inj, u8_46, Bool.or_eq_true, Bool.and_eq_true, decide_eq_true_eq] at *
      all_goals first
        | exact ⟨k + 1, hlt, by omega, Sub.mk [] _ ⟨congrArg (fun z => some (E.v (i64 z))) (by push_cast; omega), rfl, rfl, rfl, rfl, trivial⟩ rfl rfl⟩
        | (exfalso; simp_all; done)
    · obtain rfl : k = K := by omega
      generalize atF w (i + ((k : Int) + 1) * (-1)) = A at *
      by_cases c1 : A = 46 <;> by_cases c2 : k ≤ 1 <;> cases l
      all_goals
        (repeat' ((conv => whnf); first | refine CondVC.t ?_ | refine CondVC.f ?_ | refine CondVC.dec (fun h => ?_) (fun h => ?_) | refine CondVC.ndec (fun h => ?_) (fun h => ?_) | refine CondVC.mk (fun h => ?_) (fun h => ?_) | refine ArVC.i64 (by first | omega | (simp only; omega)) ?_ | refine SideVC.mk (by first | omega | decide | (simp only; omega) | (simp [slS]; done) | (simp [slS]; omega) | (simp only [byteE_len, mvE_len, strE_len, intE_len, esC_len, List.length_cons, List.length_nil, List.length_append, List.length_replicate, List.length_set, Int.toNat_natCast, and_true] at *; omega)) ?_ | refine LoopN.go ?_ | exact trivial | refine AltVC.mk ?_ ?_ | refine HeldVC.mk rfl ?_ | refine DrawVC.quiet tt_ok (by kernel_rfl) (by kernel_rfl) ?_ | refine QCallVC.pure h1 rfl ?_ | refine QCallVC.pure hot rfl ?_ | refine OpVC.more tt_ok ?_ | refine RestVC.ext tt_ok ?_)); all_goals (conv => whnf)
        all_goals simp only [hgi, u8_inj, u8_46, Bool.or_eq_true, Bool.and_eq_true, decide_eq_true_eq] at *
        all_goals first
          | (exfalso; omega)
          | exact absurd c1 (by assumption)
          | (exfalso; clear hyes hatk hot h1; simp_all; done)
          | exact RetVC.res (by simp [vb, i64, c1, c2]) rfl
end Go.Proofs.YtaidpalamhmghaaDoor.X
