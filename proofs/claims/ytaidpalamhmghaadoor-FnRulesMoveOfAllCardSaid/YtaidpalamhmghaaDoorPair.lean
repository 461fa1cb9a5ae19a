/- Pairs to pass: both functions. No condition beyond each statement's. -/
import Derived.Test.YtaidpalamhmghaaDoorPlayF
import Derived.Test.YtaidpalamhmghaaDoorEdge
namespace Go.Proofs.YtaidpalamhmghaaDoor.X
open Go.Proofs
set_option maxRecDepth 100000
set_option linter.unusedVariables false
set_option linter.unusedSimpArgs false
/-! ### Pairs to pass -/
def prF : Tx → Nat → Nat → Nat
  | [], s, _ => s
  | b :: r, s, t => if b = 84 then prF r s (t + 1) else if b = 70 then prF r (s + t) t else prF r s t
theorem prF_step {w : Tx} {k : Nat} (h : k < w.length) (s t : Nat) : prF (w.drop k) s t = if w.getD k 0 = 84 then prF (w.drop (k + 1)) s (t + 1) else if w.getD k 0 = 70 then prF (w.drop (k + 1)) (s + t) t else prF (w.drop (k + 1)) s t := by
  rw [drop_at h]; rfl
theorem implPairs_spec (w : Tx) (hw : w.length ≤ 1000) : Spec Tryd.prog 90 [.c (.str w)] [] (isRes [i64 (prF w 0 0 : Nat)] []) := by
  refine Spec.of_wpx tt_ok Tryd.func90 (by kernel_rfl) rfl ?_
  (repeat' ((conv => whnf); first | refine CondVC.t ?_ | refine CondVC.f ?_ | refine CondVC.dec (fun h => ?_) (fun h => ?_) | refine CondVC.ndec (fun h => ?_) (fun h => ?_) | refine CondVC.mk (fun h => ?_) (fun h => ?_) | refine ArVC.i64 (by first | omega | (simp only; omega)) ?_ | refine SideVC.mk (by first | omega | decide | (simp only; omega) | (simp [slS]; done) | (simp [slS]; omega) | (simp only [byteE_len, mvE_len, strE_len, intE_len, esC_len, List.length_cons, List.length_nil, List.length_append, List.length_replicate, List.length_set, Int.toNat_natCast, and_true] at *; omega)) ?_ | refine LoopN.go ?_ | exact trivial | refine AltVC.mk ?_ ?_ | refine HeldVC.mk rfl ?_ | refine OpVC.more tt_ok ?_ | refine RestVC.ext tt_ok ?_)); all_goals (conv => whnf)
  refine LoopVC.mk (G := Nat × Nat × Nat) (fun γ => ⟨[(8, .v (i64 γ.1)), (7, .v (i64 w.length)), (4, .v (i64 γ.2.2)), (3, .v (i64 γ.2.1)), (0, .v (.c (.str w)))], []⟩)
    (fun γ => γ.1 ≤ w.length ∧ prF (w.drop γ.1) γ.2.1 γ.2.2 = prF w 0 0 ∧ γ.2.2 ≤ γ.1 ∧ γ.2.1 ≤ γ.1 * 1000) (fun γ => w.length - γ.1) (0, 0, 0) ⟨Nat.zero_le _, rfl, Nat.le_refl _, Nat.zero_le _⟩ (Sub.mk [] [] ⟨rfl, rfl, rfl, rfl, rfl, trivial⟩ rfl rfl) ?_
  rintro ⟨k, s, t⟩ ⟨hk, he, ht, hs⟩
  simp only at hk he ht hs
  by_cases hlt : k < w.length
  · have hst := prF_step hlt s t
    rw [he] at hst
    (repeat' ((conv => whnf); first | refine CondVC.t ?_ | refine CondVC.f ?_ | refine CondVC.dec (fun h => ?_) (fun h => ?_) | refine CondVC.ndec (fun h => ?_) (fun h => ?_) | refine CondVC.mk (fun h => ?_) (fun h => ?_) | refine ArVC.i64 (by first | omega | (simp only; omega)) ?_ | refine SideVC.mk (by first | omega | decide | (simp only; omega) | (simp [slS]; done) | (simp [slS]; omega) | (simp only [byteE_len, mvE_len, strE_len, intE_len, esC_len, List.length_cons, List.length_nil, List.length_append, List.length_replicate, List.length_set, Int.toNat_natCast, and_true] at *; omega)) ?_ | refine LoopN.go ?_ | exact trivial | refine AltVC.mk ?_ ?_ | refine HeldVC.mk rfl ?_ | refine OpVC.more tt_ok ?_ | refine RestVC.ext tt_ok ?_)); all_goals (conv => whnf)
    all_goals simp only [Int.toNat_natCast, u8_84, u8_70] at *
    all_goals first
      | (exfalso; omega)
      | exact ⟨(k + 1, s, t + 1), ⟨by simp only; omega, by simp only; rw [hst, if_pos (by assumption)], by simp only; omega, by simp only; omega⟩, by simp only; omega, Sub.mk [] _ ⟨rfl, rfl, rfl, rfl, rfl, trivial⟩ rfl rfl⟩
      | exact ⟨(k + 1, s + t, t), ⟨by simp only; omega, by simp only; rw [hst, if_neg (by assumption), if_pos (by assumption)], by simp only; omega, by simp only; omega⟩, by simp only; omega, Sub.mk [] _ ⟨rfl, rfl, rfl, rfl, rfl, trivial⟩ rfl rfl⟩
      | exact ⟨(k + 1, s, t), ⟨by simp only; omega, by simp only; rw [hst, if_neg (by assumption), if_neg (by assumption)], by simp only; omega, by simp only; omega⟩, by simp only; omega, Sub.mk [] _ ⟨rfl, rfl, rfl, rfl, rfl, trivial⟩ rfl rfl⟩
  · have hd : w.drop k = [] := List.drop_eq_nil_of_le (by omega)
    rw [hd] at he
    have he : s = prF w 0 0 := he
    (repeat' ((conv => whnf); first | refine CondVC.t ?_ | refine CondVC.f ?_ | refine CondVC.dec (fun h => ?_) (fun h => ?_) | refine CondVC.ndec (fun h => ?_) (fun h => ?_) | refine CondVC.mk (fun h => ?_) (fun h => ?_) | refine ArVC.i64 (by first | omega | (simp only; omega)) ?_ | refine SideVC.mk (by first | omega | decide | (simp only; omega) | (simp [slS]; done) | (simp [slS]; omega) | (simp only [byteE_len, mvE_len, strE_len, intE_len, esC_len, List.length_cons, List.length_nil, List.length_append, List.length_replicate, List.length_set, Int.toNat_natCast, and_true] at *; omega)) ?_ | refine LoopN.go ?_ | exact trivial | refine AltVC.mk ?_ ?_ | refine HeldVC.mk rfl ?_ | refine OpVC.more tt_ok ?_ | refine RestVC.ext tt_ok ?_)); all_goals (conv => whnf)
    all_goals first
      | (exfalso; omega)
      | exact RetVC.res (by rw [he]; rfl) rfl
theorem liPairs_spec (w : Tx) (hw : w.length ≤ 1000) : Spec Tryd.prog 91 [.c (.str w)] [] (isRes [i64 (prF w 0 0 : Nat)] []) := by
  refine Spec.of_wpx tt_ok Tryd.func91 (by kernel_rfl) rfl ?_
  (repeat' ((conv => whnf); first | refine CondVC.t ?_ | refine CondVC.f ?_ | refine CondVC.dec (fun h => ?_) (fun h => ?_) | refine CondVC.ndec (fun h => ?_) (fun h => ?_) | refine CondVC.mk (fun h => ?_) (fun h => ?_) | refine ArVC.i64 (by first | omega | (simp only; omega)) ?_ | refine SideVC.mk (by first | omega | decide | (simp only; omega) | (simp [slS]; done) | (simp [slS]; omega) | (simp only [byteE_len, mvE_len, strE_len, intE_len, esC_len, List.length_cons, List.length_nil, List.length_append, List.length_replicate, List.length_set, Int.toNat_natCast, and_true] at *; omega)) ?_ | refine LoopN.go ?_ | exact trivial | refine AltVC.mk ?_ ?_ | refine HeldVC.mk rfl ?_ | refine OpVC.more tt_ok ?_ | refine RestVC.ext tt_ok ?_)); all_goals (conv => whnf)
  refine LoopVC.mk (G := Nat × Nat × Nat) (fun γ => ⟨[(5, .v (i64 γ.1)), (4, .v (i64 γ.2.2)), (3, .v (i64 γ.2.1)), (0, .v (.c (.str w)))], []⟩)
    (fun γ => γ.1 ≤ w.length ∧ prF (w.drop γ.1) γ.2.1 γ.2.2 = prF w 0 0 ∧ γ.2.2 ≤ γ.1 ∧ γ.2.1 ≤ γ.1 * 1000) (fun γ => w.length - γ.1) (0, 0, 0) ⟨Nat.zero_le _, rfl, Nat.le_refl _, Nat.zero_le _⟩ (Sub.mk [] [] ⟨rfl, rfl, rfl, rfl, trivial⟩ rfl rfl) ?_
  rintro ⟨k, s, t⟩ ⟨hk, he, ht, hs⟩
  simp only at hk he ht hs
  by_cases hlt : k < w.length
  · have hst := prF_step hlt s t
    rw [he] at hst
    (repeat' ((conv => whnf); first | refine CondVC.t ?_ | refine CondVC.f ?_ | refine CondVC.dec (fun h => ?_) (fun h => ?_) | refine CondVC.ndec (fun h => ?_) (fun h => ?_) | refine CondVC.mk (fun h => ?_) (fun h => ?_) | refine ArVC.i64 (by first | omega | (simp only; omega)) ?_ | refine SideVC.mk (by first | omega | decide | (simp only; omega) | (simp [slS]; done) | (simp [slS]; omega) | (simp only [byteE_len, mvE_len, strE_len, intE_len, esC_len, List.length_cons, List.length_nil, List.length_append, List.length_replicate, List.length_set, Int.toNat_natCast, and_true] at *; omega)) ?_ | refine LoopN.go ?_ | exact trivial | refine AltVC.mk ?_ ?_ | refine HeldVC.mk rfl ?_ | refine OpVC.more tt_ok ?_ | refine RestVC.ext tt_ok ?_)); all_goals (conv => whnf)
    all_goals simp only [Int.toNat_natCast, u8_84, u8_70] at *
    all_goals first
      | (exfalso; omega)
      | exact ⟨(k + 1, s, t + 1), ⟨by simp only; omega, by simp only; rw [hst, if_pos (by assumption)], by simp only; omega, by simp only; omega⟩, by simp only; omega, Sub.mk [] _ ⟨rfl, rfl, rfl, rfl, trivial⟩ rfl rfl⟩
      | exact ⟨(k + 1, s + t, t), ⟨by simp only; omega, by simp only; rw [hst, if_neg (by assumption), if_pos (by assumption)], by simp only; omega, by simp only; omega⟩, by simp only; omega, Sub.mk [] _ ⟨rfl, rfl, rfl, rfl, trivial⟩ rfl rfl⟩
      | exact ⟨(k + 1, s, t), ⟨by simp only; omega, by simp only; rw [hst, if_neg (by assumption), if_neg (by assumption)], by simp only; omega, by simp only; omega⟩, by simp only; omega, Sub.mk [] _ ⟨rfl, rfl, rfl, rfl, trivial⟩ rfl rfl⟩
  · have hd : w.drop k = [] := List.drop_eq_nil_of_le (by omega)
    rw [hd] at he
    have he : s = prF w 0 0 := he
    (repeat' ((conv => whnf); first | refine CondVC.t ?_ | refine CondVC.f ?_ | refine CondVC.dec (fun h => ?_) (fun h => ?_) | refine CondVC.ndec (fun h => ?_) (fun h => ?_) | refine CondVC.mk (fun h => ?_) (fun h => ?_) | refine ArVC.i64 (by first | omega | (simp only; omega)) ?_ | refine SideVC.mk (by first | omega | decide | (simp only; omega) | (simp [slS]; done) | (simp [slS]; omega) | (simp only [byteE_len, mvE_len, strE_len, intE_len, esC_len, List.length_cons, List.length_nil, List.length_append, List.length_replicate, List.length_set, Int.toNat_natCast, and_true] at *; omega)) ?_ | refine LoopN.go ?_ | exact trivial | refine AltVC.mk ?_ ?_ | refine HeldVC.mk rfl ?_ | refine OpVC.more tt_ok ?_ | refine RestVC.ext tt_ok ?_)); all_goals (conv => whnf)
    all_goals first
      | (exfalso; omega)
      | exact RetVC.res (by rw [he]; rfl) rfl
end Go.Proofs.YtaidpalamhmghaaDoor.X
