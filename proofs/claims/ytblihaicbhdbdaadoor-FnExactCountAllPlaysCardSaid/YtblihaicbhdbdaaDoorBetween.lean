/- Whether a line is reached, and after how many moves: the program's and the reference's. No condition beyond each statement's. -/
import Derived.Test.YtblihaicbhdbdaaDoorReach
namespace Go.Proofs.YtblihaicbhdbdaaDoor.X
open Go.Proofs
set_option maxRecDepth 100000
set_option linter.unusedVariables false
set_option linter.unusedSimpArgs false

theorem few_ok {w : Tx} (h : lineOf w 10 = true) : w.all okCh = true ∧ w.length ≤ 10 := by
  unfold lineOf at h
  simp only [Bool.and_eq_true, decide_eq_true_eq] at h
  exact ⟨h.2, by omega⟩
theorem few_and (w : Tx) : (lineOf w 12 && decide ((w.length : Int) ≤ 10)) = lineOf w 10 := by
  unfold lineOf
  cases w.all okCh
  · simp
  · simp only [Bool.and_true]
    rw [← Bool.decide_and]
    exact decide_eq_decide.2 (by omega)
def bothF (w v : Tx) : Bool := lineOf w 10 && lineOf v 10
def isBetF (w v : Tx) : Bool := bothF w v && decide (0 ≤ afterF w v)
def betF (w v : Tx) : Int := if isBetF w v then afterF w v else 0
theorem key_after {w v : Tx} {ks : List Tx} (h : okKs w ks) : (v ∈ ks ∧ 0 ≤ afterF w v ∧ dF w v = afterF w v) ∨ (v ∉ ks ∧ ¬ 0 ≤ afterF w v) := by
  rcases after_cases w v with ⟨k, hk, he⟩ | ⟨hn, he⟩
  · exact .inl ⟨(h.2 v).2 ⟨k, hk⟩, by omega, by rw [dF_reach hk, he]⟩
  · exact .inr ⟨fun hm => by obtain ⟨k, hk⟩ := (h.2 v).1 hm; exact hn k hk, by omega⟩
theorem between_spec (w v : Tx) (hw : w.length ≤ 1048576) (hv : v.length ≤ 1048576) : Spec Tryd.prog 60 [.c (.str w), .c (.str v)] [] (isRes [i64 (betF w v), vb (isBetF w v), vb (bothF w v)] []) := by
  have h1 := isReachLine_spec w hw
  have h2 := isReachLine_spec v hv
  unfold betF isBetF bothF
  refine Spec.of_wpx tt_ok Tryd.func60 (by kernel_rfl) rfl ?_
  cases ha : lineOf w 10 with
  | false =>
    rw [ha] at h1
    (repeat' ((conv => whnf); first | refine CondVC.t ?_ | refine CondVC.f ?_ | refine CondVC.dec (fun h => ?_) (fun h => ?_) | refine CondVC.ndec (fun h => ?_) (fun h => ?_) | refine CondVC.mk (fun h => ?_) (fun h => ?_) | refine ArVC.i64 (by first | omega | (simp only; omega)) ?_ | refine SideVC.mk (by first | omega | decide | (simp only; omega) | (simp [slS]; done) | (simp [slS]; omega) | (simp only [byteE_len, mvE_len, strE_len, intE_len, esC_len, List.length_cons, List.length_nil, List.length_append, List.length_replicate, List.length_set, Int.toNat_natCast, and_true] at *; omega)) ?_ | refine LoopN.go ?_ | exact trivial | refine AltVC.mk ?_ ?_ | refine HeldVC.mk rfl ?_ | refine CallVC.pure h1 rfl ?_ | refine OpVC.more tt_ok ?_ | refine RestVC.ext tt_ok ?_)); all_goals (conv => whnf)
    all_goals exact RetVC.res rfl rfl
  | true =>
    rw [ha] at h1
    cases hb : lineOf v 10 with
    | false =>
      rw [hb] at h2
      (repeat' ((conv => whnf); first | refine CondVC.t ?_ | refine CondVC.f ?_ | refine CondVC.dec (fun h => ?_) (fun h => ?_) | refine CondVC.ndec (fun h => ?_) (fun h => ?_) | refine CondVC.mk (fun h => ?_) (fun h => ?_) | refine ArVC.i64 (by first | omega | (simp only; omega)) ?_ | refine SideVC.mk (by first | omega | decide | (simp only; omega) | (simp [slS]; done) | (simp [slS]; omega) | (simp only [byteE_len, mvE_len, strE_len, intE_len, esC_len, List.length_cons, List.length_nil, List.length_append, List.length_replicate, List.length_set, Int.toNat_natCast, and_true] at *; omega)) ?_ | refine LoopN.go ?_ | exact trivial | refine AltVC.mk ?_ ?_ | refine HeldVC.mk rfl ?_ | refine CallVC.pure h1 rfl ?_ | refine CallVC.pure h2 rfl ?_ | refine OpVC.more tt_ok ?_ | refine RestVC.ext tt_ok ?_)); all_goals (conv => whnf)
      all_goals exact RetVC.res rfl rfl
    | true =>
      rw [hb] at h2
      have hr := reached_spec w (few_ok ha).1 (by have := (few_ok ha).2; omega)
      (repeat' ((conv => whnf); first | refine CondVC.t ?_ | refine CondVC.f ?_ | refine CondVC.dec (fun h => ?_) (fun h => ?_) | refine CondVC.ndec (fun h => ?_) (fun h => ?_) | refine CondVC.mk (fun h => ?_) (fun h => ?_) | refine ArVC.i64 (by first | omega | (simp only; omega)) ?_ | refine SideVC.mk (by first | omega | decide | (simp only; omega) | (simp [slS]; done) | (simp [slS]; omega) | (simp only [byteE_len, mvE_len, strE_len, intE_len, esC_len, List.length_cons, List.length_nil, List.length_append, List.length_replicate, List.length_set, Int.toNat_natCast, and_true] at *; omega)) ?_ | refine LoopN.go ?_ | exact trivial | refine AltVC.mk ?_ ?_ | refine HeldVC.mk rfl ?_ | refine CallVC.pure h1 rfl ?_ | refine CallVC.pure h2 rfl ?_ | (refine CallVC.ex [] rfl hr ?_; intro ks hks; refine ⟨rfl, ?_⟩; have hkv := key_after (v := v) hks) | (refine LookVC.mk (fun x hx => ?_) (fun hx => ?_); obtain ⟨hxm, rfl⟩ := bE_some hx) | refine OpVC.more tt_ok ?_ | refine RestVC.ext tt_ok ?_)); all_goals (conv => whnf)
      · rcases hkv with ⟨a1, a2, a3⟩ | ⟨a1, a2⟩
        · refine RetVC.res ?_ rfl
          rw [decide_eq_true a2, a3]; rfl
        · exact absurd hxm a1
      · rcases hkv with ⟨a1, a2, a3⟩ | ⟨a1, a2⟩
        · exact absurd a1 (bE_none hx)
        · refine RetVC.res ?_ rfl
          rw [decide_eq_false a2]; rfl

theorem implCanReach_spec (w v : Tx) (hw : w.length ≤ 1048576) (hv : v.length ≤ 1048576) : Spec Tryd.prog 40 [.c (.str w), .c (.str v)] [] (isRes [vb (isBetF w v), vb (bothF w v)] []) := by
  have h1 := between_spec w v hw hv
  refine Spec.of_wpx tt_ok Tryd.func40 (by kernel_rfl) rfl ?_
  (repeat' ((conv => whnf); first | refine CondVC.t ?_ | refine CondVC.f ?_ | refine CondVC.dec (fun h => ?_) (fun h => ?_) | refine CondVC.ndec (fun h => ?_) (fun h => ?_) | refine CondVC.mk (fun h => ?_) (fun h => ?_) | refine ArVC.i64 (by first | omega | (simp only; omega)) ?_ | refine SideVC.mk (by first | omega | decide | (simp only; omega) | (simp [slS]; done) | (simp [slS]; omega) | (simp only [byteE_len, mvE_len, strE_len, intE_len, esC_len, List.length_cons, List.length_nil, List.length_append, List.length_replicate, List.length_set, Int.toNat_natCast, and_true] at *; omega)) ?_ | refine LoopN.go ?_ | exact trivial | refine AltVC.mk ?_ ?_ | refine HeldVC.mk rfl ?_ | refine CallVC.pure h1 rfl ?_ | refine OpVC.more tt_ok ?_ | refine RestVC.ext tt_ok ?_)); all_goals (conv => whnf)
  all_goals exact RetVC.res rfl rfl


theorem lastF_le (w : Tx) : (lastF w).length ≤ w.length := by
  have hc := count3_le w
  have l1 := rep_len [70] (w.count 70)
  have l2 := rep_len [46] (w.count 46)
  have l3 := rep_len [84] (w.count 84)
  simp only [List.length_cons, List.length_nil, Nat.zero_add, Nat.mul_one] at l1 l2 l3
  unfold lastF
  simp only [List.length_append]
  omega
theorem all_rep {c : UInt8} (n : Nat) (h : okCh c = true) : (rep [c] n).all okCh = true := by
  unfold rep
  rw [List.all_eq_true]
  intro x hx
  obtain ⟨l, hl, hxl⟩ := List.mem_flatten.1 hx
  have := (List.mem_replicate.1 hl).2
  subst this
  simp only [List.mem_singleton] at hxl
  rw [hxl]; exact h
theorem count3_ok {w : Tx} (h : w.all okCh = true) : w.count 70 + w.count 46 + w.count 84 = w.length := by
  induction w with
  | nil => rfl
  | cons c w ih =>
    simp only [List.all_cons, Bool.and_eq_true] at h
    have := ih h.2
    have hc := h.1
    simp only [okCh, Bool.or_eq_true, decide_eq_true_eq, beq_iff_eq] at hc
    simp only [List.count_cons, List.length_cons]
    rcases hc with hc | hc | hc <;> subst hc <;> simp <;> omega
theorem last_few {w : Tx} (h : lineOf w 10 = true) : lineOf (lastF w) 10 = true := by
  have h' := h
  unfold lineOf at h' ⊢
  simp only [Bool.and_eq_true, decide_eq_true_eq] at h' ⊢
  have hl : (lastF w).length = w.length := by
    have hc := count3_ok h'.2
    have l1 := rep_len [70] (w.count 70)
    have l2 := rep_len [46] (w.count 46)
    have l3 := rep_len [84] (w.count 84)
    simp only [List.length_cons, List.length_nil, Nat.zero_add, Nat.mul_one] at l1 l2 l3
    unfold lastF
    simp only [List.length_append]
    omega
  refine ⟨by omega, ?_⟩
  unfold lastF
  simp only [List.all_append, Bool.and_eq_true]
  exact ⟨⟨all_rep _ rfl, all_rep _ rfl⟩, all_rep _ rfl⟩
end Go.Proofs.YtblihaicbhdbdaaDoor.X
