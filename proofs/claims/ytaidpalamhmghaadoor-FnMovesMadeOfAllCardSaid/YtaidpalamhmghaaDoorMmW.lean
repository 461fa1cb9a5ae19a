/- The way to go, and jumps: both functions of each. No condition beyond each statement's. -/
import Derived.Test.YtaidpalamhmghaaDoorMm
import Derived.Test.YtaidpalamhmghaaDoorMmF
import Derived.Test.YtaidpalamhmghaaDoorKind
namespace Go.Proofs.YtaidpalamhmghaaDoor.X
open Go.Proofs
set_option maxRecDepth 100000
set_option linter.unusedVariables false
set_option linter.unusedSimpArgs false
/-! ### Jumps -/
def jpF (w : Tx) (m : Mv) : Bool := cmF w m && jmpF m
theorem implIsJump_spec (w : Tx) (m : Mv) (hw : w.length ≤ 1048576) : Spec Tryd.prog 50 [.c (.str w), .agg (mvC m)] [] (isRes [vb (jpF w m), vb (cmF w m)] []) := by
  have h1 := isLine_spec w (by omega)
  unfold jpF cmF
  refine Spec.of_wpx tt_ok Tryd.func50 (by kernel_rfl) rfl ?_
  cases hl : lineOf w 12 with
  | true =>
    have h2 := can_spec w m (by have := line_len hl; omega)
    rw [hl] at h1
    cases hc : canG w m with
    | true =>
      have hin := movesF_in (canG_mem.1 hc)
      have h3 := isJump_spec m (by have := line_len hl; omega) (by have := line_len hl; omega)
      rw [hc] at h2
      unfold jmpF
      generalize decide (¬ m.2 - m.1 = 1 ∧ ¬ m.1 - m.2 = 1) = q at *
      (repeat' ((conv => whnf); first | refine CondVC.t ?_ | refine CondVC.f ?_ | refine CondVC.dec (fun h => ?_) (fun h => ?_) | refine CondVC.ndec (fun h => ?_) (fun h => ?_) | refine CondVC.mk (fun h => ?_) (fun h => ?_) | refine ArVC.i64 (by first | omega | (simp only; omega)) ?_ | refine SideVC.mk (by first | omega | decide | (simp only; omega) | (simp [slS]; done) | (simp [slS]; omega) | (simp only [byteE_len, mvE_len, strE_len, intE_len, esC_len, List.length_cons, List.length_nil, List.length_append, List.length_replicate, List.length_set, Int.toNat_natCast, and_true] at *; omega)) ?_ | refine LoopN.go ?_ | exact trivial | refine AltVC.mk ?_ ?_ | refine HeldVC.mk rfl ?_ | refine CallVC.pure h1 rfl ?_ | refine CallVC.pure h2 rfl ?_ | refine CallVC.pure h3 rfl ?_ | refine OpVC.more tt_ok ?_ | refine RestVC.ext tt_ok ?_)); all_goals (conv => whnf)
      all_goals exact RetVC.res rfl rfl
    | false =>
      rw [hc] at h2
      (repeat' ((conv => whnf); first | refine CondVC.t ?_ | refine CondVC.f ?_ | refine CondVC.dec (fun h => ?_) (fun h => ?_) | refine CondVC.ndec (fun h => ?_) (fun h => ?_) | refine CondVC.mk (fun h => ?_) (fun h => ?_) | refine ArVC.i64 (by first | omega | (simp only; omega)) ?_ | refine SideVC.mk (by first | omega | decide | (simp only; omega) | (simp [slS]; done) | (simp [slS]; omega) | (simp only [byteE_len, mvE_len, strE_len, intE_len, esC_len, List.length_cons, List.length_nil, List.length_append, List.length_replicate, List.length_set, Int.toNat_natCast, and_true] at *; omega)) ?_ | refine LoopN.go ?_ | exact trivial | refine AltVC.mk ?_ ?_ | refine HeldVC.mk rfl ?_ | refine CallVC.pure h1 rfl ?_ | refine CallVC.pure h2 rfl ?_ | refine OpVC.more tt_ok ?_ | refine RestVC.ext tt_ok ?_)); all_goals (conv => whnf)
      all_goals exact RetVC.res rfl rfl
  | false =>
    rw [hl] at h1
    (repeat' ((conv => whnf); first | refine CondVC.t ?_ | refine CondVC.f ?_ | refine CondVC.dec (fun h => ?_) (fun h => ?_) | refine CondVC.ndec (fun h => ?_) (fun h => ?_) | refine CondVC.mk (fun h => ?_) (fun h => ?_) | refine ArVC.i64 (by first | omega | (simp only; omega)) ?_ | refine SideVC.mk (by first | omega | decide | (simp only; omega) | (simp [slS]; done) | (simp [slS]; omega) | (simp only [byteE_len, mvE_len, strE_len, intE_len, esC_len, List.length_cons, List.length_nil, List.length_append, List.length_replicate, List.length_set, Int.toNat_natCast, and_true] at *; omega)) ?_ | refine LoopN.go ?_ | exact trivial | refine AltVC.mk ?_ ?_ | refine HeldVC.mk rfl ?_ | refine CallVC.pure h1 rfl ?_ | refine OpVC.more tt_ok ?_ | refine RestVC.ext tt_ok ?_)); all_goals (conv => whnf)
    all_goals exact RetVC.res rfl rfl
theorem specIsJump_spec (w : Tx) (m : Mv) (hw : w.length ≤ 1048576) : Spec Tryd.prog 53 [.c (.str w), .agg (mvC m)] [] (isRes [vb (jpF w m), vb (cmF w m)] []) := by
  have h1 := liGood_spec w (by omega)
  unfold jpF cmF
  refine Spec.of_wpx tt_ok Tryd.func53 (by kernel_rfl) rfl ?_
  cases hl : lineOf w 12 with
  | true =>
    have h2 := liCan_spec w m (by have := line_len hl; omega)
    rw [canF_eq (line_ok hl)] at h2
    rw [hl] at h1
    cases hc : canG w m with
    | true =>
      have hin := movesF_in (canG_mem.1 hc)
      have hj := jmp_two (canG_mem.1 hc)
      have hle := line_len hl
      have h3 := l1Abs_spec (m.2 - m.1) (by omega)
      rw [hc] at h2
      rw [hj]
      obtain ⟨a, b⟩ := m
      simp only at *
      (repeat' ((conv => whnf); first | refine CondVC.t ?_ | refine CondVC.f ?_ | refine CondVC.dec (fun h => ?_) (fun h => ?_) | refine CondVC.ndec (fun h => ?_) (fun h => ?_) | refine CondVC.mk (fun h => ?_) (fun h => ?_) | refine ArVC.i64 (by first | omega | (simp only; omega)) ?_ | refine SideVC.mk (by first | omega | decide | (simp only; omega) | (simp [slS]; done) | (simp [slS]; omega) | (simp only [byteE_len, mvE_len, strE_len, intE_len, esC_len, List.length_cons, List.length_nil, List.length_append, List.length_replicate, List.length_set, Int.toNat_natCast, and_true] at *; omega)) ?_ | refine LoopN.go ?_ | exact trivial | refine AltVC.mk ?_ ?_ | refine HeldVC.mk rfl ?_ | refine CallVC.pure h1 rfl ?_ | refine CallVC.pure h2 rfl ?_ | refine CallVC.pure h3 rfl ?_ | refine OpVC.more tt_ok ?_ | refine RestVC.ext tt_ok ?_)); all_goals (conv => whnf)
      all_goals exact RetVC.res (by
        have : (max (b - a) (-(b - a)) = 2) ↔ (b - a = 2 ∨ a - b = 2) := by omega
        simp [vb, this]) rfl
    | false =>
      rw [hc] at h2
      (repeat' ((conv => whnf); first | refine CondVC.t ?_ | refine CondVC.f ?_ | refine CondVC.dec (fun h => ?_) (fun h => ?_) | refine CondVC.ndec (fun h => ?_) (fun h => ?_) | refine CondVC.mk (fun h => ?_) (fun h => ?_) | refine ArVC.i64 (by first | omega | (simp only; omega)) ?_ | refine SideVC.mk (by first | omega | decide | (simp only; omega) | (simp [slS]; done) | (simp [slS]; omega) | (simp only [byteE_len, mvE_len, strE_len, intE_len, esC_len, List.length_cons, List.length_nil, List.length_append, List.length_replicate, List.length_set, Int.toNat_natCast, and_true] at *; omega)) ?_ | refine LoopN.go ?_ | exact trivial | refine AltVC.mk ?_ ?_ | refine HeldVC.mk rfl ?_ | refine CallVC.pure h1 rfl ?_ | refine CallVC.pure h2 rfl ?_ | refine OpVC.more tt_ok ?_ | refine RestVC.ext tt_ok ?_)); all_goals (conv => whnf)
      all_goals exact RetVC.res rfl rfl
  | false =>
    rw [hl] at h1
    (repeat' ((conv => whnf); first | refine CondVC.t ?_ | refine CondVC.f ?_ | refine CondVC.dec (fun h => ?_) (fun h => ?_) | refine CondVC.ndec (fun h => ?_) (fun h => ?_) | refine CondVC.mk (fun h => ?_) (fun h => ?_) | refine ArVC.i64 (by first | omega | (simp only; omega)) ?_ | refine SideVC.mk (by first | omega | decide | (simp only; omega) | (simp [slS]; done) | (simp [slS]; omega) | (simp only [byteE_len, mvE_len, strE_len, intE_len, esC_len, List.length_cons, List.length_nil, List.length_append, List.length_replicate, List.length_set, Int.toNat_natCast, and_true] at *; omega)) ?_ | refine LoopN.go ?_ | exact trivial | refine AltVC.mk ?_ ?_ | refine HeldVC.mk rfl ?_ | refine CallVC.pure h1 rfl ?_ | refine OpVC.more tt_ok ?_ | refine RestVC.ext tt_ok ?_)); all_goals (conv => whnf)
    all_goals exact RetVC.res rfl rfl

/-! ### The way to go -/
theorem wayG_step {w : Tx} {k : Nat} (h : k < w.length) (i t f : Int) : wayG (w.drop k) i t f = if w.getD k 0 = 84 then t - i + wayG (w.drop (k + 1)) (i + 1) (t + 1) f else if w.getD k 0 = 70 then i - f + wayG (w.drop (k + 1)) (i + 1) t (f + 1) else wayG (w.drop (k + 1)) (i + 1) t f := by
  rw [drop_at h]; rfl
theorem implWay_spec (w : Tx) (hw : w.length ≤ 12) (hok : w.all okCh = true) : Spec Tryd.prog 88 [.c (.str w)] [] (isRes [i64 (wyF w : Nat)] []) := by
  have h1 := implCount_spec w
  have hall := wayG_all hok
  have hc : w.count 84 ≤ w.length := List.count_le_length
  generalize w.count 84 = c at *
  generalize w.count 46 = c2 at *
  generalize w.count 70 = c3 at *
  refine Spec.of_wpx tt_ok Tryd.func88 (by kernel_rfl) rfl ?_
  (repeat' ((conv => whnf); first | refine CondVC.t ?_ | refine CondVC.f ?_ | refine CondVC.dec (fun h => ?_) (fun h => ?_) | refine CondVC.ndec (fun h => ?_) (fun h => ?_) | refine CondVC.mk (fun h => ?_) (fun h => ?_) | refine ArVC.i64 (by first | omega | (simp only; omega)) ?_ | refine SideVC.mk (by first | omega | decide | (simp only; omega) | (simp [slS]; done) | (simp [slS]; omega) | (simp only [byteE_len, mvE_len, strE_len, intE_len, esC_len, List.length_cons, List.length_nil, List.length_append, List.length_replicate, List.length_set, Int.toNat_natCast, and_true] at *; omega)) ?_ | refine LoopN.go ?_ | exact trivial | refine AltVC.mk ?_ ?_ | refine HeldVC.mk rfl ?_ | refine CallVC.pure h1 rfl ?_ | refine OpVC.more tt_ok ?_ | refine RestVC.ext tt_ok ?_)); all_goals (conv => whnf)
  refine LoopVC.mk (G := Nat × Int × Nat × Nat) (fun γ => ⟨[(22, .v (i64 γ.1)), (21, .v (i64 w.length)), (8, .v (i64 γ.2.2.2)), (7, .v (i64 ((w.length : Int) - c + γ.2.2.1))), (6, .v (i64 γ.2.1)), (0, .v (.c (.str w)))], []⟩)
    (fun γ => γ.1 ≤ w.length ∧ γ.2.1 + wayG (w.drop γ.1) γ.1 ((w.length : Int) - c + γ.2.2.1) γ.2.2.2 = (wyF w : Nat) ∧ γ.2.2.1 ≤ γ.1 ∧ γ.2.2.2 ≤ γ.1 ∧ -1000 * γ.1 ≤ γ.2.1 ∧ γ.2.1 ≤ 1000 * γ.1) (fun γ => w.length - γ.1) (0, 0, 0, 0)
    ⟨Nat.zero_le _, by simpa using hall, Nat.le_refl _, Nat.le_refl _, by simp, by simp⟩ (Sub.mk [] [] ⟨rfl, rfl, rfl, congrArg (fun z => some (E.v (i64 z))) (by simp only; omega), rfl, rfl, trivial⟩ rfl rfl) ?_
  rintro ⟨k, s, t, f⟩ ⟨hk, he, ht, hf, hs1, hs2⟩
  simp only at hk he ht hf hs1 hs2
  by_cases hlt : k < w.length
  · have hst := wayG_step hlt (k : Int) ((w.length : Int) - c + t) f
    (repeat' ((conv => whnf); first | refine CondVC.t ?_ | refine CondVC.f ?_ | refine CondVC.dec (fun h => ?_) (fun h => ?_) | refine CondVC.ndec (fun h => ?_) (fun h => ?_) | refine CondVC.mk (fun h => ?_) (fun h => ?_) | refine ArVC.i64 (by first | omega | (simp only; omega)) ?_ | refine SideVC.mk (by first | omega | decide | (simp only; omega) | (simp [slS]; done) | (simp [slS]; omega) | (simp only [byteE_len, mvE_len, strE_len, intE_len, esC_len, List.length_cons, List.length_nil, List.length_append, List.length_replicate, List.length_set, Int.toNat_natCast, and_true] at *; omega)) ?_ | refine LoopN.go ?_ | exact trivial | refine AltVC.mk ?_ ?_ | refine HeldVC.mk rfl ?_ | refine OpVC.more tt_ok ?_ | refine RestVC.ext tt_ok ?_)); all_goals (conv => whnf)
    all_goals simp only [Int.toNat_natCast, u8_84, u8_70] at *
    all_goals first
      | (exfalso; omega)
      | exact ⟨(k + 1, s + ((w.length : Int) - c + t - k), t + 1, f), ⟨by simp only; omega, by simp only; rw [← he, hst, if_pos (by assumption)]; push_cast; rw [show (w.length : Int) - c + (t + 1) = (w.length : Int) - c + t + 1 by omega]; omega, by simp only; omega, by simp only; omega, by simp only; omega, by simp only; omega⟩, by simp only; omega, Sub.mk [] _ ⟨rfl, rfl, rfl, congrArg (fun z => some (E.v (i64 z))) (by simp only; omega), rfl, rfl, trivial⟩ rfl rfl⟩
      | exact ⟨(k + 1, s + ((k : Int) - f), t, f + 1), ⟨by simp only; omega, by simp only; rw [← he, hst, if_neg (by assumption), if_pos (by assumption)]; push_cast; omega, by simp only; omega, by simp only; omega, by simp only; omega, by simp only; omega⟩, by simp only; omega, Sub.mk [] _ ⟨rfl, rfl, rfl, rfl, rfl, rfl, trivial⟩ rfl rfl⟩
      | exact ⟨(k + 1, s, t, f), ⟨by simp only; omega, by simp only; rw [← he, hst, if_neg (by assumption), if_neg (by assumption)]; push_cast; rfl, by simp only; omega, by simp only; omega, by simp only; omega, by simp only; omega⟩, by simp only; omega, Sub.mk [] _ ⟨rfl, rfl, rfl, rfl, rfl, rfl, trivial⟩ rfl rfl⟩
  · have hd : w.drop k = [] := List.drop_eq_nil_of_le (by omega)
    rw [hd] at he
    have he : s = (wyF w : Nat) := by simpa [wayG] using he
    (repeat' ((conv => whnf); first | refine CondVC.t ?_ | refine CondVC.f ?_ | refine CondVC.dec (fun h => ?_) (fun h => ?_) | refine CondVC.ndec (fun h => ?_) (fun h => ?_) | refine CondVC.mk (fun h => ?_) (fun h => ?_) | refine ArVC.i64 (by first | omega | (simp only; omega)) ?_ | refine SideVC.mk (by first | omega | decide | (simp only; omega) | (simp [slS]; done) | (simp [slS]; omega) | (simp only [byteE_len, mvE_len, strE_len, intE_len, esC_len, List.length_cons, List.length_nil, List.length_append, List.length_replicate, List.length_set, Int.toNat_natCast, and_true] at *; omega)) ?_ | refine LoopN.go ?_ | exact trivial | refine AltVC.mk ?_ ?_ | refine HeldVC.mk rfl ?_ | refine OpVC.more tt_ok ?_ | refine RestVC.ext tt_ok ?_)); all_goals (conv => whnf)
    all_goals first
      | (exfalso; omega)
      | exact RetVC.res (by simp only [he]; rfl) rfl
/-- Cells of a sign, added up. -/
def sumS (b : UInt8) : Tx → Int → Int
  | [], _ => 0
  | c :: r, i => (if c = b then i else 0) + sumS b r (i + 1)
theorem sumS_step {w : Tx} {k : Nat} (h : k < w.length) (b : UInt8) (i : Int) : sumS b (w.drop k) i = (if w.getD k 0 = b then i else 0) + sumS b (w.drop (k + 1)) (i + 1) := by
  rw [drop_at h]; rfl
theorem posS_sum : ∀ (w : Tx) (i : Int), posS w i = sumS 70 w i - sumS 84 w i
  | [], i => rfl
  | c :: r, i => by
    unfold posS sumS
    rw [posS_sum r (i + 1)]
    by_cases h1 : c = 84
    · subst h1; simp; omega
    · by_cases h2 : c = 70
      · subst h2; simp; omega
      · simp [h1, h2]
theorem sumS_le (b : UInt8) : ∀ (w : Tx) (i : Int), 0 ≤ i → i + w.length ≤ 1000 → 0 ≤ sumS b w i ∧ sumS b w i ≤ 1000 * w.length
  | [], i, _, _ => by simp [sumS]
  | c :: r, i, h0, h1 => by
    have := sumS_le b r (i + 1) (by omega) (by simp only [List.length_cons] at h1; omega)
    unfold sumS
    simp only [List.length_cons] at h1 ⊢
    split <;> omega
theorem liSum_spec (w : Tx) (b : UInt8) (hw : w.length ≤ 900) : Spec Tryd.prog 129 [.c (.str w), .c (.int .u8 (b.toNat : Nat))] [] (isRes [i64 (sumS b w 0)] []) := by
  refine Spec.of_wpx tt_ok Tryd.func129 (by kernel_rfl) rfl ?_
  (repeat' ((conv => whnf); first | refine CondVC.t ?_ | refine CondVC.f ?_ | refine CondVC.dec (fun h => ?_) (fun h => ?_) | refine CondVC.ndec (fun h => ?_) (fun h => ?_) | refine CondVC.mk (fun h => ?_) (fun h => ?_) | refine ArVC.i64 (by first | omega | (simp only; omega)) ?_ | refine SideVC.mk (by first | omega | decide | (simp only; omega) | (simp [slS]; done) | (simp [slS]; omega) | (simp only [byteE_len, mvE_len, strE_len, intE_len, esC_len, List.length_cons, List.length_nil, List.length_append, List.length_replicate, List.length_set, Int.toNat_natCast, and_true] at *; omega)) ?_ | refine LoopN.go ?_ | exact trivial | refine AltVC.mk ?_ ?_ | refine HeldVC.mk rfl ?_ | refine OpVC.more tt_ok ?_ | refine RestVC.ext tt_ok ?_)); all_goals (conv => whnf)
  refine LoopVC.mk (G := Nat × Int) (fun γ => ⟨[(6, .v (i64 γ.1)), (5, .v (i64 γ.2)), (1, .v (.c (.int .u8 (b.toNat : Nat)))), (0, .v (.c (.str w)))], []⟩)
    (fun γ => γ.1 ≤ w.length ∧ γ.2 + sumS b (w.drop γ.1) γ.1 = sumS b w 0 ∧ 0 ≤ γ.2 ∧ γ.2 ≤ 1000 * γ.1) (fun γ => w.length - γ.1) (0, 0) ⟨Nat.zero_le _, by simp, by simp, by simp⟩ (Sub.mk [] [] ⟨rfl, rfl, rfl, rfl, trivial⟩ rfl rfl) ?_
  rintro ⟨k, s⟩ ⟨hk, he, hs1, hs2⟩
  simp only at hk he hs1 hs2
  by_cases hlt : k < w.length
  · have hst := sumS_step hlt b (k : Int)
    have hbb : ∀ c : UInt8, (((c.toNat : Nat) : Int) = ((b.toNat : Nat) : Int)) ↔ c = b := fun c => ⟨fun h => UInt8.toNat_inj.1 (by omega), fun h => by rw [h]⟩
    (repeat' ((conv => whnf); first | refine CondVC.t ?_ | refine CondVC.f ?_ | refine CondVC.dec (fun h => ?_) (fun h => ?_) | refine CondVC.ndec (fun h => ?_) (fun h => ?_) | refine CondVC.mk (fun h => ?_) (fun h => ?_) | refine ArVC.i64 (by first | omega | (simp only; omega)) ?_ | refine SideVC.mk (by first | omega | decide | (simp only; omega) | (simp [slS]; done) | (simp [slS]; omega) | (simp only [byteE_len, mvE_len, strE_len, intE_len, esC_len, List.length_cons, List.length_nil, List.length_append, List.length_replicate, List.length_set, Int.toNat_natCast, and_true] at *; omega)) ?_ | refine LoopN.go ?_ | exact trivial | refine AltVC.mk ?_ ?_ | refine HeldVC.mk rfl ?_ | refine OpVC.more tt_ok ?_ | refine RestVC.ext tt_ok ?_)); all_goals (conv => whnf)
    all_goals simp only [Int.toNat_natCast, hbb] at *
    all_goals first
      | (exfalso; omega)
      | exact ⟨(k + 1, s + k), ⟨by simp only; omega, by simp only; rw [← he, hst, if_pos (by assumption)]; push_cast; omega, by simp only; omega, by simp only; omega⟩, by simp only; omega, Sub.mk [] _ ⟨rfl, rfl, rfl, rfl, trivial⟩ rfl rfl⟩
      | exact ⟨(k + 1, s), ⟨by simp only; omega, by simp only; rw [← he, hst, if_neg (by assumption)]; push_cast; omega, by simp only; omega, by simp only; omega⟩, by simp only; omega, Sub.mk [] _ ⟨rfl, rfl, rfl, rfl, trivial⟩ rfl rfl⟩
  · have hd : w.drop k = [] := List.drop_eq_nil_of_le (by omega)
    rw [hd] at he
    have he : s = sumS b w 0 := by simpa [sumS] using he
    (repeat' ((conv => whnf); first | refine CondVC.t ?_ | refine CondVC.f ?_ | refine CondVC.dec (fun h => ?_) (fun h => ?_) | refine CondVC.ndec (fun h => ?_) (fun h => ?_) | refine CondVC.mk (fun h => ?_) (fun h => ?_) | refine ArVC.i64 (by first | omega | (simp only; omega)) ?_ | refine SideVC.mk (by first | omega | decide | (simp only; omega) | (simp [slS]; done) | (simp [slS]; omega) | (simp only [byteE_len, mvE_len, strE_len, intE_len, esC_len, List.length_cons, List.length_nil, List.length_append, List.length_replicate, List.length_set, Int.toNat_natCast, and_true] at *; omega)) ?_ | refine LoopN.go ?_ | exact trivial | refine AltVC.mk ?_ ?_ | refine HeldVC.mk rfl ?_ | refine OpVC.more tt_ok ?_ | refine RestVC.ext tt_ok ?_)); all_goals (conv => whnf)
    all_goals first
      | (exfalso; omega)
      | exact RetVC.res (by simp only [he]; rfl) rfl
theorem liWay_spec (w : Tx) (hw : w.length ≤ 12) (hok : w.all okCh = true) : Spec Tryd.prog 89 [.c (.str w)] [] (isRes [i64 (wyF w : Nat)] []) := by
  have h1 := liLast_spec w (by omega)
  have hp := posS_last hok
  rw [posS_sum, posS_sum] at hp
  have hl : (lastF w).length ≤ 40 := by
    have h1 : w.count 70 ≤ w.length := List.count_le_length
    have h2 : w.count 46 ≤ w.length := List.count_le_length
    have h3 : w.count 84 ≤ w.length := List.count_le_length
    rw [lastF_len]; omega
  generalize lastF w = g at *
  have e1 : Spec _ _ [_, .c (.int .u8 84)] _ _ := liSum_spec w 84 (by omega)
  have e2 : Spec _ _ [_, .c (.int .u8 70)] _ _ := liSum_spec w 70 (by omega)
  have e3 : Spec _ _ [_, .c (.int .u8 84)] _ _ := liSum_spec g 84 (by omega)
  have e4 : Spec _ _ [_, .c (.int .u8 70)] _ _ := liSum_spec g 70 (by omega)
  have b1 := sumS_le 84 w 0 (by omega) (by omega)
  have b2 := sumS_le 70 w 0 (by omega) (by omega)
  have b3 := sumS_le 84 g 0 (by omega) (by omega)
  have b4 := sumS_le 70 g 0 (by omega) (by omega)
  generalize sumS 84 w 0 = s1 at *
  generalize sumS 70 w 0 = s2 at *
  generalize sumS 84 g 0 = s3 at *
  generalize sumS 70 g 0 = s4 at *
  generalize wyF w = z at *
  refine Spec.of_wpx tt_ok Tryd.func89 (by kernel_rfl) rfl ?_
  (repeat' ((conv => whnf); first | refine CondVC.t ?_ | refine CondVC.f ?_ | refine CondVC.dec (fun h => ?_) (fun h => ?_) | refine CondVC.ndec (fun h => ?_) (fun h => ?_) | refine CondVC.mk (fun h => ?_) (fun h => ?_) | refine ArVC.i64 (by first | omega | (simp only; omega)) ?_ | refine SideVC.mk (by first | omega | decide | (simp only; omega) | (simp [slS]; done) | (simp [slS]; omega) | (simp only [byteE_len, mvE_len, strE_len, intE_len, esC_len, List.length_cons, List.length_nil, List.length_append, List.length_replicate, List.length_set, Int.toNat_natCast, and_true] at *; omega)) ?_ | refine LoopN.go ?_ | exact trivial | refine AltVC.mk ?_ ?_ | refine HeldVC.mk rfl ?_ | refine CallVC.pure h1 rfl ?_ | refine CallVC.pure e1 rfl ?_ | refine CallVC.pure e2 rfl ?_ | refine CallVC.pure e3 rfl ?_ | refine CallVC.pure e4 rfl ?_ | refine OpVC.more tt_ok ?_ | refine RestVC.ext tt_ok ?_)); all_goals (conv => whnf)
  all_goals exact RetVC.res (congrArg (fun z => [i64 z]) (by omega)) rfl
def wgF (w : Tx) : Int := if lineOf w 12 then (wyF w : Nat) else 0
theorem implWayToGo_spec (w : Tx) (hw : w.length ≤ 1048576) : Spec Tryd.prog 38 [.c (.str w)] [] (isRes [i64 (wgF w), vb (lineOf w 12)] []) := by
  have h1 := isLine_spec w (by omega)
  unfold wgF
  refine Spec.of_wpx tt_ok Tryd.func38 (by kernel_rfl) rfl ?_
  cases hl : lineOf w 12 with
  | true =>
    have h2 := implWay_spec w (by have := line_len hl; omega) (line_ok hl)
    rw [hl] at h1
    rw [if_pos rfl]
    generalize wyF w = z at *
    (repeat' ((conv => whnf); first | refine CondVC.t ?_ | refine CondVC.f ?_ | refine CondVC.dec (fun h => ?_) (fun h => ?_) | refine CondVC.ndec (fun h => ?_) (fun h => ?_) | refine CondVC.mk (fun h => ?_) (fun h => ?_) | refine ArVC.i64 (by first | omega | (simp only; omega)) ?_ | refine SideVC.mk (by first | omega | decide | (simp only; omega) | (simp [slS]; done) | (simp [slS]; omega) | (simp only [byteE_len, mvE_len, strE_len, intE_len, esC_len, List.length_cons, List.length_nil, List.length_append, List.length_replicate, List.length_set, Int.toNat_natCast, and_true] at *; omega)) ?_ | refine LoopN.go ?_ | exact trivial | refine AltVC.mk ?_ ?_ | refine HeldVC.mk rfl ?_ | refine CallVC.pure h1 rfl ?_ | refine CallVC.pure h2 rfl ?_ | refine OpVC.more tt_ok ?_ | refine RestVC.ext tt_ok ?_)); all_goals (conv => whnf)
    all_goals exact RetVC.res rfl rfl
  | false =>
    rw [hl] at h1
    rw [if_neg Bool.false_ne_true]
    (repeat' ((conv => whnf); first | refine CondVC.t ?_ | refine CondVC.f ?_ | refine CondVC.dec (fun h => ?_) (fun h => ?_) | refine CondVC.ndec (fun h => ?_) (fun h => ?_) | refine CondVC.mk (fun h => ?_) (fun h => ?_) | refine ArVC.i64 (by first | omega | (simp only; omega)) ?_ | refine SideVC.mk (by first | omega | decide | (simp only; omega) | (simp [slS]; done) | (simp [slS]; omega) | (simp only [byteE_len, mvE_len, strE_len, intE_len, esC_len, List.length_cons, List.length_nil, List.length_append, List.length_replicate, List.length_set, Int.toNat_natCast, and_true] at *; omega)) ?_ | refine LoopN.go ?_ | exact trivial | refine AltVC.mk ?_ ?_ | refine HeldVC.mk rfl ?_ | refine CallVC.pure h1 rfl ?_ | refine OpVC.more tt_ok ?_ | refine RestVC.ext tt_ok ?_)); all_goals (conv => whnf)
    all_goals exact RetVC.res rfl rfl
theorem specWayToGo_spec (w : Tx) (hw : w.length ≤ 1048576) : Spec Tryd.prog 39 [.c (.str w)] [] (isRes [i64 (wgF w), vb (lineOf w 12)] []) := by
  have h1 := liGood_spec w (by omega)
  unfold wgF
  refine Spec.of_wpx tt_ok Tryd.func39 (by kernel_rfl) rfl ?_
  cases hl : lineOf w 12 with
  | true =>
    have h2 := liWay_spec w (by have := line_len hl; omega) (line_ok hl)
    rw [hl] at h1
    rw [if_pos rfl]
    generalize wyF w = z at *
    (repeat' ((conv => whnf); first | refine CondVC.t ?_ | refine CondVC.f ?_ | refine CondVC.dec (fun h => ?_) (fun h => ?_) | refine CondVC.ndec (fun h => ?_) (fun h => ?_) | refine CondVC.mk (fun h => ?_) (fun h => ?_) | refine ArVC.i64 (by first | omega | (simp only; omega)) ?_ | refine SideVC.mk (by first | omega | decide | (simp only; omega) | (simp [slS]; done) | (simp [slS]; omega) | (simp only [byteE_len, mvE_len, strE_len, intE_len, esC_len, List.length_cons, List.length_nil, List.length_append, List.length_replicate, List.length_set, Int.toNat_natCast, and_true] at *; omega)) ?_ | refine LoopN.go ?_ | exact trivial | refine AltVC.mk ?_ ?_ | refine HeldVC.mk rfl ?_ | refine CallVC.pure h1 rfl ?_ | refine CallVC.pure h2 rfl ?_ | refine OpVC.more tt_ok ?_ | refine RestVC.ext tt_ok ?_)); all_goals (conv => whnf)
    all_goals exact RetVC.res rfl rfl
  | false =>
    rw [hl] at h1
    rw [if_neg Bool.false_ne_true]
    (repeat' ((conv => whnf); first | refine CondVC.t ?_ | refine CondVC.f ?_ | refine CondVC.dec (fun h => ?_) (fun h => ?_) | refine CondVC.ndec (fun h => ?_) (fun h => ?_) | refine CondVC.mk (fun h => ?_) (fun h => ?_) | refine ArVC.i64 (by first | omega | (simp only; omega)) ?_ | refine SideVC.mk (by first | omega | decide | (simp only; omega) | (simp [slS]; done) | (simp [slS]; omega) | (simp only [byteE_len, mvE_len, strE_len, intE_len, esC_len, List.length_cons, List.length_nil, List.length_append, List.length_replicate, List.length_set, Int.toNat_natCast, and_true] at *; omega)) ?_ | refine LoopN.go ?_ | exact trivial | refine AltVC.mk ?_ ?_ | refine HeldVC.mk rfl ?_ | refine CallVC.pure h1 rfl ?_ | refine OpVC.more tt_ok ?_ | refine RestVC.ext tt_ok ?_)); all_goals (conv => whnf)
    all_goals exact RetVC.res rfl rfl
end Go.Proofs.YtaidpalamhmghaaDoor.X
