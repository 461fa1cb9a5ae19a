/- Moves by rules: the reference's list, moves made, and plays. No condition beyond each statement's. -/
import Derived.Test.YtaidpalamhmghaaDoorRuW3
namespace Go.Proofs.YtaidpalamhmghaaDoor.X
open Go.Proofs
set_option maxRecDepth 100000
set_option linter.unusedVariables false
set_option linter.unusedSimpArgs false
/-! ### The reference's list -/
def ruTo (w : Tx) (o bk l : Bool) (k : Nat) : List Mv := (List.range k).flatMap fun i => ruRow w o bk l i w.length
theorem ruTo_succ (w : Tx) (o bk l : Bool) (k : Nat) : ruTo w o bk l (k + 1) = ruTo w o bk l k ++ ruRow w o bk l k w.length := by
  unfold ruTo; rw [List.range_succ, List.flatMap_append]; simp
theorem ruRow_succ (w : Tx) (o bk l : Bool) (i n : Nat) : ruRow w o bk l i (n + 1) = ruRow w o bk l i n ++ (if rcF w o bk l ((i : Int), (n : Int)) then [((i : Int), (n : Int))] else []) := by
  unfold ruRow
  rw [List.range_succ, List.filterMap_append]
  congr 1
  simp only [List.filterMap_cons, List.filterMap_nil]
  split <;> rename_i h <;> split at h <;> simp_all
theorem ruRow_len (w : Tx) (o bk l : Bool) (i : Nat) : ∀ n, (ruRow w o bk l i n).length ≤ n
  | 0 => by simp [ruRow]
  | n + 1 => by
    have := ruRow_len w o bk l i n
    rw [ruRow_succ, List.length_append]
    split <;> simp <;> omega
theorem ruTo_len (w : Tx) (o bk l : Bool) : ∀ k, (ruTo w o bk l k).length ≤ k * w.length
  | 0 => by simp [ruTo]
  | k + 1 => by
    have h1 := ruTo_len w o bk l k
    have h2 := ruRow_len w o bk l k w.length
    rw [ruTo_succ, List.length_append, Nat.succ_mul]; omega
set_option maxHeartbeats 4000000 in
theorem ruMoves_spec (w : Tx) (o bk l : Bool) (hok : w.all okCh = true) (hw : w.length ≤ 100) : Spec Tryd.prog 66 [.c (.str w), ruleV o bk l] [] (isRes [.c (.sl 1001)] [(1001, .sl 33 2 (mvE (ruL w o bk l)))]) := by
  refine Spec.of_wpx tt_ok Tryd.func66 (by kernel_rfl) rfl ?_
  (repeat' ((conv => whnf); first | refine CondVC.t ?_ | refine CondVC.f ?_ | refine CondVC.dec (fun h => ?_) (fun h => ?_) | refine CondVC.ndec (fun h => ?_) (fun h => ?_) | refine CondVC.mk (fun h => ?_) (fun h => ?_) | refine ArVC.i64 (by first | omega | (simp only; omega)) ?_ | refine SideVC.mk (by first | omega | decide | (simp only; omega) | (simp [slS]; done) | (simp [slS]; omega) | (simp only [byteE_len, mvE_len, strE_len, intE_len, esC_len, List.length_cons, List.length_nil, List.length_append, List.length_replicate, List.length_set, Int.toNat_natCast, and_true] at *; omega)) ?_ | refine LoopN.go ?_ | exact trivial | refine AltVC.mk ?_ ?_ | refine HeldVC.mk rfl ?_ | refine OpVC.more tt_ok ?_ | refine RestVC.ext tt_ok ?_)); all_goals (conv => whnf)
  refine LoopVC.mk (G := Nat) (fun k => ⟨[(10, .v (.c (.ptr 10 0))), (5, .v (.c (.sl 1001))), (3, .v (.c (.ptr 3 0))), (0, .v (.c (.str w)))], [(1001, .sl 33 2 (mvE (ruTo w o bk l k))), (10, .ext (.it w k)), (3, .box 31 [.bool o, .bool bk, .bool l])]⟩)
    (fun k => k ≤ w.length) (fun k => w.length - k) 0 (by omega) (Sub.nil 1001 33 2 ⟨rfl, rfl, rfl, rfl, trivial⟩ rfl rfl) ?_
  intro k hk
  have hl := ruTo_len w o bk l k
  have hs := ruTo_succ w o bk l k
  have hk100 : k * w.length ≤ 100 * 100 := Nat.mul_le_mul (by omega) hw
  (repeat' ((conv => whnf); first | refine CondVC.t ?_ | refine CondVC.f ?_ | refine CondVC.dec (fun h => ?_) (fun h => ?_) | refine CondVC.ndec (fun h => ?_) (fun h => ?_) | refine CondVC.mk (fun h => ?_) (fun h => ?_) | refine ArVC.i64 (by first | omega | (simp only; omega)) ?_ | refine SideVC.mk (by first | omega | decide | (simp only; omega) | (simp [slS]; done) | (simp [slS]; omega) | (simp only [byteE_len, mvE_len, strE_len, intE_len, esC_len, List.length_cons, List.length_nil, List.length_append, List.length_replicate, List.length_set, Int.toNat_natCast, and_true] at *; omega)) ?_ | refine LoopN.go ?_ | exact trivial | refine AltVC.mk ?_ ?_ | refine HeldVC.mk rfl ?_ | refine NextVC.mk (fun hlt => ⟨ascii_getD hok hlt, ?_⟩) (fun hle => ?_) | refine OpVC.more tt_ok ?_ | refine RestVC.ext tt_ok ?_)); all_goals (conv => whnf)
  · refine LoopVC.mk (G := Nat) (fun j => ⟨[(15, .v (.c (.ptr 15 0))), (6, .v (i64 k)), (10, .v (.c (.ptr 10 0))), (5, .v (.c (.sl 1001))), (3, .v (.c (.ptr 3 0))), (0, .v (.c (.str w)))],
        [(3, .box 31 [.bool o, .bool bk, .bool l]), (1001, .sl 33 2 (mvE (ruTo w o bk l k ++ ruRow w o bk l k j))), (10, .ext (.it w (k + 1))), (15, .ext (.it w j))]⟩)
      (fun j => j ≤ w.length) (fun j => w.length - j) 0 (by omega) (Sub.mk [] [] ⟨rfl, rfl, rfl, rfl, rfl, rfl, trivial⟩ (by rw [show ruTo w o bk l k ++ ruRow w o bk l k 0 = ruTo w o bk l k by simp [ruRow]]; rfl) rfl) ?_
    intro j hj
    have hrl := ruRow_len w o bk l k j
    have hrs := ruRow_succ w o bk l k j
    have hc := ruCan_spec w ((k : Int), (j : Int)) o bk l (by omega)
    cases hrc : rcF w o bk l ((k : Int), (j : Int)) with
    | true =>
      rw [hrc] at hc
      rw [hrc, if_pos rfl] at hrs
      have he : mvE (ruTo w o bk l k ++ ruRow w o bk l k (j + 1)) = mvE (ruTo w o bk l k ++ ruRow w o bk l k j) ++ [mvC ((k : Int), (j : Int))] := by
        rw [hrs, ← List.append_assoc, mvE_append]; rfl
      (repeat' ((conv => whnf); first | refine CondVC.t ?_ | refine CondVC.f ?_ | refine CondVC.dec (fun h => ?_) (fun h => ?_) | refine CondVC.ndec (fun h => ?_) (fun h => ?_) | refine CondVC.mk (fun h => ?_) (fun h => ?_) | refine ArVC.i64 (by first | omega | (simp only; omega)) ?_ | refine SideVC.mk (by first | omega | decide | (simp only; omega) | (simp [slS]; done) | (simp [slS]; omega) | (simp only [byteE_len, mvE_len, strE_len, intE_len, esC_len, List.length_cons, List.length_nil, List.length_append, List.length_replicate, List.length_set, Int.toNat_natCast, and_true] at *; omega)) ?_ | refine LoopN.go ?_ | exact trivial | refine AltVC.mk ?_ ?_ | refine HeldVC.mk rfl ?_ | refine NextVC.mk (fun hlt => ⟨ascii_getD hok hlt, ?_⟩) (fun hle => ?_) | refine CallVC.pure hc rfl ?_ | refine OpVC.more tt_ok ?_ | refine RestVC.ext tt_ok ?_)); all_goals (conv => whnf)
      all_goals first
        | (exfalso; omega)
        | exact ⟨j + 1, by omega, by omega, Sub.mk [(1001, 29)] _ ⟨rfl, rfl, rfl, rfl, rfl, rfl, trivial⟩ (by rw [he]; rfl) rfl⟩
        | exact ⟨k + 1, by omega, by omega, Sub.mk [] _ ⟨rfl, rfl, rfl, rfl, trivial⟩ (by rw [hs, show w.length = j by omega]; rfl) rfl⟩
    | false =>
      rw [hrc] at hc
      rw [hrc, if_neg Bool.false_ne_true, List.append_nil] at hrs
      (repeat' ((conv => whnf); first | refine CondVC.t ?_ | refine CondVC.f ?_ | refine CondVC.dec (fun h => ?_) (fun h => ?_) | refine CondVC.ndec (fun h => ?_) (fun h => ?_) | refine CondVC.mk (fun h => ?_) (fun h => ?_) | refine ArVC.i64 (by first | omega | (simp only; omega)) ?_ | refine SideVC.mk (by first | omega | decide | (simp only; omega) | (simp [slS]; done) | (simp [slS]; omega) | (simp only [byteE_len, mvE_len, strE_len, intE_len, esC_len, List.length_cons, List.length_nil, List.length_append, List.length_replicate, List.length_set, Int.toNat_natCast, and_true] at *; omega)) ?_ | refine LoopN.go ?_ | exact trivial | refine AltVC.mk ?_ ?_ | refine HeldVC.mk rfl ?_ | refine NextVC.mk (fun hlt => ⟨ascii_getD hok hlt, ?_⟩) (fun hle => ?_) | refine CallVC.pure hc rfl ?_ | refine OpVC.more tt_ok ?_ | refine RestVC.ext tt_ok ?_)); all_goals (conv => whnf)
      all_goals first
        | (exfalso; omega)
        | exact ⟨j + 1, by omega, by omega, Sub.mk [] _ ⟨rfl, rfl, rfl, rfl, rfl, rfl, trivial⟩ (by rw [hrs]; rfl) rfl⟩
        | exact ⟨k + 1, by omega, by omega, Sub.mk [] _ ⟨rfl, rfl, rfl, rfl, trivial⟩ (by rw [hs, show w.length = j by omega]; rfl) rfl⟩
  · have e : k = w.length := by omega
    exact RetVC.res rfl (by rw [e]; rfl)

/-! ### What is asked -/
theorem specRuleMoves_spec (w : Tx) (o bk l : Bool) (hw : w.length ≤ 1048576) : Spec Tryd.prog 14 [.c (.str w), ruleV o bk l] [] (isRes [.c (.sl 1001), vb (lineOf w 10)] [(1001, .sl 33 2 (mvE (askR w o bk l)))]) := by
  have h1 := reFew_spec w hw
  unfold askR
  refine Spec.of_wpx tt_ok Tryd.func14 (by kernel_rfl) rfl ?_
  cases hl : lineOf w 10 with
  | true =>
    obtain ⟨hok, hlen⟩ := few12 hl
    have h2 := ruMoves_spec w o bk l hok (by omega)
    rw [hl] at h1
    rw [if_pos rfl]
    (repeat' ((conv => whnf); first | refine CondVC.t ?_ | refine CondVC.f ?_ | refine CondVC.dec (fun h => ?_) (fun h => ?_) | refine CondVC.ndec (fun h => ?_) (fun h => ?_) | refine CondVC.mk (fun h => ?_) (fun h => ?_) | refine ArVC.i64 (by first | omega | (simp only; omega)) ?_ | refine SideVC.mk (by first | omega | decide | (simp only; omega) | (simp [slS]; done) | (simp [slS]; omega) | (simp only [byteE_len, mvE_len, strE_len, intE_len, esC_len, List.length_cons, List.length_nil, List.length_append, List.length_replicate, List.length_set, Int.toNat_natCast, and_true] at *; omega)) ?_ | refine LoopN.go ?_ | exact trivial | refine AltVC.mk ?_ ?_ | refine HeldVC.mk rfl ?_ | refine CallVC.pure h1 rfl ?_ | refine CallVC.res [] rfl h2 rfl ?_ | refine OpVC.more tt_ok ?_ | refine RestVC.ext tt_ok ?_)); all_goals (conv => whnf)
    all_goals exact RetVC.res rfl rfl
  | false =>
    rw [hl] at h1
    rw [if_neg Bool.false_ne_true]
    (repeat' ((conv => whnf); first | refine CondVC.t ?_ | refine CondVC.f ?_ | refine CondVC.dec (fun h => ?_) (fun h => ?_) | refine CondVC.ndec (fun h => ?_) (fun h => ?_) | refine CondVC.mk (fun h => ?_) (fun h => ?_) | refine ArVC.i64 (by first | omega | (simp only; omega)) ?_ | refine SideVC.mk (by first | omega | decide | (simp only; omega) | (simp [slS]; done) | (simp [slS]; omega) | (simp only [byteE_len, mvE_len, strE_len, intE_len, esC_len, List.length_cons, List.length_nil, List.length_append, List.length_replicate, List.length_set, Int.toNat_natCast, and_true] at *; omega)) ?_ | refine LoopN.go ?_ | exact trivial | refine AltVC.mk ?_ ?_ | refine HeldVC.mk rfl ?_ | refine CallVC.pure h1 rfl ?_ | refine OpVC.more tt_ok ?_ | refine RestVC.ext tt_ok ?_)); all_goals (conv => whnf)
    all_goals exact RetVC.nil 1001 33 2 [.c (.sl 1001), vb false] [(3, .box 31 [.bool o, .bool bk, .bool l])] rfl rfl rfl (RetVC.res rfl rfl)
theorem specCanByRule_spec (w : Tx) (m : Mv) (o bk l : Bool) (hw : w.length ≤ 1048576) : Spec Tryd.prog 21 [.c (.str w), .agg (mvC m), ruleV o bk l] [] (isRes [vb (cbF w o bk l m), vb (lineOf w 10)] []) := by
  have h1 := reFew_spec w hw
  unfold cbF
  refine Spec.of_wpx tt_ok Tryd.func21 (by kernel_rfl) rfl ?_
  cases hl : lineOf w 10 with
  | true =>
    obtain ⟨hok, hlen⟩ := few12 hl
    have h2 := ruCan_spec w m o bk l (by omega)
    rw [hl] at h1
    generalize rcF w o bk l m = q at *
    (repeat' ((conv => whnf); first | refine CondVC.t ?_ | refine CondVC.f ?_ | refine CondVC.dec (fun h => ?_) (fun h => ?_) | refine CondVC.ndec (fun h => ?_) (fun h => ?_) | refine CondVC.mk (fun h => ?_) (fun h => ?_) | refine ArVC.i64 (by first | omega | (simp only; omega)) ?_ | refine SideVC.mk (by first | omega | decide | (simp only; omega) | (simp [slS]; done) | (simp [slS]; omega) | (simp only [byteE_len, mvE_len, strE_len, intE_len, esC_len, List.length_cons, List.length_nil, List.length_append, List.length_replicate, List.length_set, Int.toNat_natCast, and_true] at *; omega)) ?_ | refine LoopN.go ?_ | exact trivial | refine AltVC.mk ?_ ?_ | refine HeldVC.mk rfl ?_ | refine CallVC.pure h1 rfl ?_ | refine CallVC.pure h2 rfl ?_ | refine OpVC.more tt_ok ?_ | refine RestVC.ext tt_ok ?_)); all_goals (conv => whnf)
    all_goals exact RetVC.res rfl rfl
  | false =>
    rw [hl] at h1
    (repeat' ((conv => whnf); first | refine CondVC.t ?_ | refine CondVC.f ?_ | refine CondVC.dec (fun h => ?_) (fun h => ?_) | refine CondVC.ndec (fun h => ?_) (fun h => ?_) | refine CondVC.mk (fun h => ?_) (fun h => ?_) | refine ArVC.i64 (by first | omega | (simp only; omega)) ?_ | refine SideVC.mk (by first | omega | decide | (simp only; omega) | (simp [slS]; done) | (simp [slS]; omega) | (simp only [byteE_len, mvE_len, strE_len, intE_len, esC_len, List.length_cons, List.length_nil, List.length_append, List.length_replicate, List.length_set, Int.toNat_natCast, and_true] at *; omega)) ?_ | refine LoopN.go ?_ | exact trivial | refine AltVC.mk ?_ ?_ | refine HeldVC.mk rfl ?_ | refine CallVC.pure h1 rfl ?_ | refine OpVC.more tt_ok ?_ | refine RestVC.ext tt_ok ?_)); all_goals (conv => whnf)
    all_goals exact RetVC.res rfl rfl
theorem specMakeByRule_spec (w : Tx) (m : Mv) (o bk l : Bool) (hw : w.length ≤ 1048576) : Spec Tryd.prog 22 [.c (.str w), .agg (mvC m), ruleV o bk l] [] (isRes [.c (.str (if cbF w o bk l m then madeF w m else [])), vb (cbF w o bk l m)] []) := by
  have h1 := reFew_spec w hw
  unfold cbF
  refine Spec.of_wpx tt_ok Tryd.func22 (by kernel_rfl) rfl ?_
  cases hl : lineOf w 10 with
  | true =>
    obtain ⟨hok, hlen⟩ := few12 hl
    have h2 := ruCan_spec w m o bk l (by omega)
    rw [hl] at h1
    cases hc : rcF w o bk l m with
    | true =>
      rw [hc] at h2
      have hr := rc_iff.1 hc
      have h3 := liMake_spec w m hr.1 hr.2.1 (rc_ne hc) (by omega)
      generalize madeF w m = t at *
      (repeat' ((conv => whnf); first | refine CondVC.t ?_ | refine CondVC.f ?_ | refine CondVC.dec (fun h => ?_) (fun h => ?_) | refine CondVC.ndec (fun h => ?_) (fun h => ?_) | refine CondVC.mk (fun h => ?_) (fun h => ?_) | refine ArVC.i64 (by first | omega | (simp only; omega)) ?_ | refine SideVC.mk (by first | omega | decide | (simp only; omega) | (simp [slS]; done) | (simp [slS]; omega) | (simp only [byteE_len, mvE_len, strE_len, intE_len, esC_len, List.length_cons, List.length_nil, List.length_append, List.length_replicate, List.length_set, Int.toNat_natCast, and_true] at *; omega)) ?_ | refine LoopN.go ?_ | exact trivial | refine AltVC.mk ?_ ?_ | refine HeldVC.mk rfl ?_ | refine CallVC.pure h1 rfl ?_ | refine CallVC.pure h2 rfl ?_ | refine CallVC.pure h3 rfl ?_ | refine OpVC.more tt_ok ?_ | refine RestVC.ext tt_ok ?_)); all_goals (conv => whnf)
      all_goals exact RetVC.res rfl rfl
    | false =>
      rw [hc] at h2
      (repeat' ((conv => whnf); first | refine CondVC.t ?_ | refine CondVC.f ?_ | refine CondVC.dec (fun h => ?_) (fun h => ?_) | refine CondVC.ndec (fun h => ?_) (fun h => ?_) | refine CondVC.mk (fun h => ?_) (fun h => ?_) | refine ArVC.i64 (by first | omega | (simp only; omega)) ?_ | refine SideVC.mk (by first | omega | decide | (simp only; omega) | (simp [slS]; done) | (simp [slS]; omega) | (simp only [byteE_len, mvE_len, strE_len, intE_len, esC_len, List.length_cons, List.length_nil, List.length_append, List.length_replicate, List.length_set, Int.toNat_natCast, and_true] at *; omega)) ?_ | refine LoopN.go ?_ | exact trivial | refine AltVC.mk ?_ ?_ | refine HeldVC.mk rfl ?_ | refine CallVC.pure h1 rfl ?_ | refine CallVC.pure h2 rfl ?_ | refine OpVC.more tt_ok ?_ | refine RestVC.ext tt_ok ?_)); all_goals (conv => whnf)
      all_goals exact RetVC.res rfl rfl
  | false =>
    rw [hl] at h1
    (repeat' ((conv => whnf); first | refine CondVC.t ?_ | refine CondVC.f ?_ | refine CondVC.dec (fun h => ?_) (fun h => ?_) | refine CondVC.ndec (fun h => ?_) (fun h => ?_) | refine CondVC.mk (fun h => ?_) (fun h => ?_) | refine ArVC.i64 (by first | omega | (simp only; omega)) ?_ | refine SideVC.mk (by first | omega | decide | (simp only; omega) | (simp [slS]; done) | (simp [slS]; omega) | (simp only [byteE_len, mvE_len, strE_len, intE_len, esC_len, List.length_cons, List.length_nil, List.length_append, List.length_replicate, List.length_set, Int.toNat_natCast, and_true] at *; omega)) ?_ | refine LoopN.go ?_ | exact trivial | refine AltVC.mk ?_ ?_ | refine HeldVC.mk rfl ?_ | refine CallVC.pure h1 rfl ?_ | refine OpVC.more tt_ok ?_ | refine RestVC.ext tt_ok ?_)); all_goals (conv => whnf)
    all_goals exact RetVC.res rfl rfl

/-! ### Plays -/
def cntP (p : Tx → Mv → Bool) : Tx → List Mv → Nat
  | _, [] => 0
  | w, m :: l => if p w m then cntP p (madeF w m) l + 1 else 0
theorem cntP_from (p : Tx → Mv → Bool) (w : Tx) (l : List Mv) : ∀ (k : Nat), k ≤ l.length → (∀ j (hj : j < l.length), j < k → p (wAt w l j) l[j] = true) → cntP p w l = k + cntP p (wAt w l k) (l.drop k)
  | 0, _, _ => by simp [wAt_zero]
  | k + 1, hk, h => by
    rw [cntP_from p w l k (by omega) fun j hj hjk => h j hj (by omega), List.drop_eq_getElem_cons (by omega : k < l.length), cntP, if_pos (h k (by omega) (by omega)), wAt_succ w (by omega : k < l.length)]
    omega
theorem cntP_at {p : Tx → Mv → Bool} {w : Tx} {l : List Mv} {k : Nat} (hk : k < l.length) (h : ∀ j (hj : j < l.length), j < k → p (wAt w l j) l[j] = true) (h0 : p (wAt w l k) l[k] = false) : cntP p w l = k := by
  rw [cntP_from p w l k (by omega) h, List.drop_eq_getElem_cons hk, cntP, h0]
  simp
theorem cntP_end {p : Tx → Mv → Bool} {w : Tx} {l : List Mv} (h : ∀ j (hj : j < l.length), p (wAt w l j) l[j] = true) : cntP p w l = l.length := by
  rw [cntP_from p w l l.length (Nat.le_refl _) fun j hj _ => h j hj]
  simp [cntP]
theorem cntP_all {p : Tx → Mv → Bool} : ∀ {l : List Mv} {w : Tx}, cntP p w l = l.length → ∀ j (hj : j < l.length), p (wAt w l j) l[j] = true
  | [], w, _, j, hj => absurd hj (Nat.not_lt_zero _)
  | m :: l, w, h, j, hj => by
    unfold cntP at h
    split at h
    · rename_i hc
      cases j with
      | zero => exact hc
      | succ j =>
        simp only [List.length_cons] at h hj
        have := cntP_all (p := p) (l := l) (w := madeF w m) (by omega) j (by omega)
        simpa [wAt] using this
    · simp at h
theorem wAt_line {w : Tx} {o bk lg : Bool} {l : List Mv} (hl : lineOf w 10 = true) : ∀ (k : Nat), k ≤ l.length → (∀ j (hj : j < l.length), j < k → rcF (wAt w l j) o bk lg l[j] = true) → lineOf (wAt w l k) 10 = true
  | 0, _, _ => by rw [wAt_zero]; exact hl
  | k + 1, hk, h => by
    have ih := wAt_line hl k (by omega) fun j hj hjk => h j hj (by omega)
    have hr := h k (by omega) (by omega)
    rw [wAt_succ w (by omega : k < l.length)]
    unfold lineOf at ih ⊢
    simp only [Bool.and_eq_true] at ih ⊢
    rw [madeF_len]
    exact ⟨ih.1, rc_made_ok ih.2 hr⟩
def plOk (w : Tx) (o bk lg : Bool) (l : List Mv) : Bool := lineOf w 10 && (decide (l.length ≤ 100) && decide (cntP (fun w m => rcF w o bk lg m) w l = l.length))
def plEnd (w : Tx) (o bk lg : Bool) (l : List Mv) : Tx := if plOk w o bk lg l then wAt w l l.length else []
theorem can1_spec (w : Tx) (m : Mv) (o bk l : Bool) (hl : lineOf w 10 = true) : Spec Tryd.prog 73 [.c (.str w), .agg (mvC m), .c (.ptr 1005 0)] [(1005, .box 31 [.bool o, .bool bk, .bool l])]
    (isRes [vb (rcF w o bk l m)] [(1005, .box 31 [.bool o, .bool bk, .bool l])]) := by
  obtain ⟨hok, hlen⟩ := few12 hl
  have h2 := Spec.ren [(1001, 2001)] [(2001, 1001)] (movesBy_spec w o bk l (by omega)) rfl rfl rfl
  have h3 := Spec.ren [(1000, 2001)] [(2001, 1000)] (containsM_spec (byL w o bk l) m (by have := byTo_len w o bk l w.length; unfold byTo at this; unfold byL; omega)) rfl rfl rfl
  have e : rcF w o bk l m = decide (m ∈ byL w o bk l) := by rw [Bool.eq_iff_iff, decide_eq_true_eq, mem_by hok]
  rw [e]
  generalize decide (m ∈ byL w o bk l) = q at *
  refine Spec.of_wpx tt_ok Tryd.func73 (by kernel_rfl) rfl ?_
  (repeat' ((conv => whnf); first | refine CondVC.t ?_ | refine CondVC.f ?_ | refine CondVC.dec (fun h => ?_) (fun h => ?_) | refine CondVC.ndec (fun h => ?_) (fun h => ?_) | refine CondVC.mk (fun h => ?_) (fun h => ?_) | refine ArVC.i64 (by first | omega | (simp only; omega)) ?_ | refine SideVC.mk (by first | omega | decide | (simp only; omega) | (simp [slS]; done) | (simp [slS]; omega) | (simp only [byteE_len, mvE_len, strE_len, intE_len, esC_len, List.length_cons, List.length_nil, List.length_append, List.length_replicate, List.length_set, Int.toNat_natCast, and_true] at *; omega)) ?_ | refine LoopN.go ?_ | exact trivial | refine AltVC.mk ?_ ?_ | refine HeldVC.mk rfl ?_ | refine DrawVC.tree (id := 1) tt_ok [4, 1005] tr73_1 (by kernel_rfl) (by kernel_rfl) rfl ?_ | refine CallVC.res [] rfl h2 rfl ?_ | refine CallVC.res [2001] rfl h3 rfl ?_ | refine OpVC.more tt_ok ?_ | refine RestVC.ext tt_ok ?_)); all_goals (conv => whnf)
  all_goals exact RetVC.res rfl rfl
theorem playedR_spec (w : Tx) (l : List Mv) (o bk lg : Bool) (ob : Obj) (hl : lineOf w 10 = true) (hll : l.length ≤ 2000000) :
    Spec Tryd.prog 72 [.c (.str w), .c (.sl 1000), .c (.fn 73 [1005])] [(1000, .ro ob 33 2 (mvE l)), (1005, .box 31 [.bool o, .bool bk, .bool lg])]
    (isRes [.c (.str (if cntP (fun w m => rcF w o bk lg m) w l = l.length then wAt w l l.length else [])), i64 (cntP (fun w m => rcF w o bk lg m) w l : Nat)] [(1000, .ro ob 33 2 (mvE l)), (1005, .box 31 [.bool o, .bool bk, .bool lg])]) := by
  have hml := mvE_len l
  refine Spec.of_wpx tt_ok Tryd.func72 (by kernel_rfl) rfl ?_
  (repeat' ((conv => whnf); first | refine CondVC.t ?_ | refine CondVC.f ?_ | refine CondVC.dec (fun h => ?_) (fun h => ?_) | refine CondVC.ndec (fun h => ?_) (fun h => ?_) | refine CondVC.mk (fun h => ?_) (fun h => ?_) | refine ArVC.i64 (by first | omega | (simp only; omega)) ?_ | refine SideVC.mk (by first | omega | decide | (simp only; omega) | (simp [slS]; done) | (simp [slS]; omega) | (simp only [byteE_len, mvE_len, strE_len, intE_len, esC_len, List.length_cons, List.length_nil, List.length_append, List.length_replicate, List.length_set, Int.toNat_natCast, and_true] at *; omega)) ?_ | refine LoopN.go ?_ | exact trivial | refine AltVC.mk ?_ ?_ | refine HeldVC.mk rfl ?_ | refine OpVC.more tt_ok ?_ | refine RestVC.ext tt_ok ?_)); all_goals (conv => whnf)
  refine LoopVC.mk (G := Nat) (fun k => ⟨[(12, .v (i64 k)), (11, .v (i64 l.length)), (10, .v (.c (.sl 1000))), (2, .v (.c (.fn 73 [1005]))), (1, .v (.c (.sl 1000))), (0, .v (.c (.str (wAt w l k))))], [(1000, .ro ob 33 2 (mvE l)), (1005, .box 31 [.bool o, .bool bk, .bool lg])]⟩)
    (fun k => k ≤ l.length ∧ ∀ j (hj : j < l.length), j < k → rcF (wAt w l j) o bk lg l[j] = true) (fun k => l.length - k) 0 ⟨by omega, fun j hj h => by omega⟩ (Sub.mk [] _ ⟨rfl, by rw [← hml]; rfl, rfl, rfl, rfl, by rw [wAt_zero]; rfl, trivial⟩ rfl rfl) ?_
  intro k ⟨hk, hall⟩
  by_cases hlt : k < l.length
  · have g1 : (mvE l)[(k : Int).toNat]? = some (mvC l[k]) := by rw [Int.toNat_natCast]; exact mvE_get hlt
    have hli := wAt_line hl k (by omega) hall
    have h1 := can1_spec (wAt w l k) l[k] o bk lg hli
    have hsu := wAt_succ w hlt
    cases hc : rcF (wAt w l k) o bk lg l[k] with
    | true =>
      rw [hc] at h1
      have hin := rc_iff.1 hc
      have h2 := made_spec (wAt w l k) l[k] hin.1 hin.2.1 (by have := (few12 hli).2; omega)
      rw [← hsu] at h2
      obtain ⟨w2, hw2⟩ : ∃ w2, w2 = wAt w l (k + 1) := ⟨_, rfl⟩
      rw [← hw2] at h2
      (repeat' ((conv => whnf); first | refine CondVC.t ?_ | refine CondVC.f ?_ | refine CondVC.dec (fun h => ?_) (fun h => ?_) | refine CondVC.ndec (fun h => ?_) (fun h => ?_) | refine CondVC.mk (fun h => ?_) (fun h => ?_) | refine ArVC.i64 (by first | omega | (simp only; omega)) ?_ | refine SideVC.mk (by first | omega | decide | (simp only; omega) | (simp [slS]; done) | (simp [slS]; omega) | (simp only [byteE_len, mvE_len, strE_len, intE_len, esC_len, List.length_cons, List.length_nil, List.length_append, List.length_replicate, List.length_set, Int.toNat_natCast, and_true] at *; omega)) ?_ | refine LoopN.go ?_ | exact trivial | refine AltVC.mk ?_ ?_ | refine HeldVC.mk rfl ?_ | refine LoadVC.mk _ g1 ?_ | refine SideVC.mk (by rw [hml]; omega) ?_ | refine CallVC.res [1005] rfl h1 rfl ?_ | refine CallVC.pure h2 rfl ?_ | refine OpVC.more tt_ok ?_ | refine RestVC.ext tt_ok ?_)); all_goals (conv => whnf)
      all_goals first
        | (exfalso; omega)
        | exact ⟨k + 1, ⟨by omega, fun j hj h => by
            by_cases e : j = k
            · subst e; exact hc
            · exact hall j hj (by omega)⟩, by omega, Sub.mk [] _ ⟨rfl, rfl, rfl, rfl, rfl, by rw [← hw2]; rfl, trivial⟩ rfl rfl⟩
    | false =>
      rw [hc] at h1
      have hcn := cntP_at (p := fun w m => rcF w o bk lg m) hlt hall hc
      rw [hcn, if_neg (show ¬ k = l.length by omega)]
      (repeat' ((conv => whnf); first | refine CondVC.t ?_ | refine CondVC.f ?_ | refine CondVC.dec (fun h => ?_) (fun h => ?_) | refine CondVC.ndec (fun h => ?_) (fun h => ?_) | refine CondVC.mk (fun h => ?_) (fun h => ?_) | refine ArVC.i64 (by first | omega | (simp only; omega)) ?_ | refine SideVC.mk (by first | omega | decide | (simp only; omega) | (simp [slS]; done) | (simp [slS]; omega) | (simp only [byteE_len, mvE_len, strE_len, intE_len, esC_len, List.length_cons, List.length_nil, List.length_append, List.length_replicate, List.length_set, Int.toNat_natCast, and_true] at *; omega)) ?_ | refine LoopN.go ?_ | exact trivial | refine AltVC.mk ?_ ?_ | refine HeldVC.mk rfl ?_ | refine LoadVC.mk _ g1 ?_ | refine SideVC.mk (by rw [hml]; omega) ?_ | refine CallVC.res [1005] rfl h1 rfl ?_ | refine OpVC.more tt_ok ?_ | refine RestVC.ext tt_ok ?_)); all_goals (conv => whnf)
      all_goals first
        | (exfalso; omega)
        | exact RetVC.res rfl rfl
  · have e : k = l.length := by omega
    have hcn := cntP_end (p := fun w m => rcF w o bk lg m) (w := w) (l := l) fun j hj => hall j hj (by omega)
    rw [hcn, if_pos rfl]
    subst e
    (repeat' ((conv => whnf); first | refine CondVC.t ?_ | refine CondVC.f ?_ | refine CondVC.dec (fun h => ?_) (fun h => ?_) | refine CondVC.ndec (fun h => ?_) (fun h => ?_) | refine CondVC.mk (fun h => ?_) (fun h => ?_) | refine ArVC.i64 (by first | omega | (simp only; omega)) ?_ | refine SideVC.mk (by first | omega | decide | (simp only; omega) | (simp [slS]; done) | (simp [slS]; omega) | (simp only [byteE_len, mvE_len, strE_len, intE_len, esC_len, List.length_cons, List.length_nil, List.length_append, List.length_replicate, List.length_set, Int.toNat_natCast, and_true] at *; omega)) ?_ | refine LoopN.go ?_ | exact trivial | refine AltVC.mk ?_ ?_ | refine HeldVC.mk rfl ?_ | refine OpVC.more tt_ok ?_ | refine RestVC.ext tt_ok ?_)); all_goals (conv => whnf)
    all_goals first
      | (exfalso; omega)
      | exact RetVC.res (by rw [hml]; rfl) rfl
theorem implPlayByRule_spec (w : Tx) (l : List Mv) (o bk lg : Bool) (ob : Obj) (hw : w.length ≤ 1048576) (hll : l.length ≤ 2000000) :
    Spec Tryd.prog 23 [.c (.str w), .c (.sl 1000), ruleV o bk lg] [(1000, .ro ob 33 2 (mvE l))]
    (isRes [.c (.str (plEnd w o bk lg l)), vb (plOk w o bk lg l)] [(1000, .ro ob 33 2 (mvE l))]) := by
  have hml := mvE_len l
  have h1 := isReachLine_spec w hw
  unfold plEnd plOk
  refine Spec.of_wpx tt_ok Tryd.func23 (by kernel_rfl) rfl ?_
  cases hl : lineOf w 10 with
  | true =>
    rw [hl] at h1
    by_cases h100 : l.length ≤ 100
    · have h2 := Spec.ren [(1005, 5)] [(5, 1005)] (playedR_spec w l o bk lg ob hl hll) rfl rfl rfl
      rw [decide_eq_true h100]
      generalize cntP (fun w m => rcF w o bk lg m) w l = c at *
      generalize wAt w l l.length = t at *
      by_cases hc : c = l.length
      · rw [decide_eq_true hc]
        rw [if_pos hc] at h2
        (repeat' ((conv => whnf); first | refine CondVC.t ?_ | refine CondVC.f ?_ | refine CondVC.dec (fun h => ?_) (fun h => ?_) | refine CondVC.ndec (fun h => ?_) (fun h => ?_) | refine CondVC.mk (fun h => ?_) (fun h => ?_) | refine ArVC.i64 (by first | omega | (simp only; omega)) ?_ | refine SideVC.mk (by first | omega | decide | (simp only; omega) | (simp [slS]; done) | (simp [slS]; omega) | (simp only [byteE_len, mvE_len, strE_len, intE_len, esC_len, List.length_cons, List.length_nil, List.length_append, List.length_replicate, List.length_set, Int.toNat_natCast, and_true] at *; omega)) ?_ | refine LoopN.go ?_ | exact trivial | refine AltVC.mk ?_ ?_ | refine HeldVC.mk rfl ?_ | refine CallVC.pure h1 rfl ?_ | refine CallVC.res [1000, 5] rfl h2 rfl ?_ | refine OpVC.more tt_ok ?_ | refine RestVC.ext tt_ok ?_)); all_goals (conv => whnf)
        all_goals first
          | (exfalso; omega)
          | exact RetVC.res (by simp [vb, hml, hc]) rfl
      · rw [decide_eq_false hc]
        rw [if_neg hc] at h2
        (repeat' ((conv => whnf); first | refine CondVC.t ?_ | refine CondVC.f ?_ | refine CondVC.dec (fun h => ?_) (fun h => ?_) | refine CondVC.ndec (fun h => ?_) (fun h => ?_) | refine CondVC.mk (fun h => ?_) (fun h => ?_) | refine ArVC.i64 (by first | omega | (simp only; omega)) ?_ | refine SideVC.mk (by first | omega | decide | (simp only; omega) | (simp [slS]; done) | (simp [slS]; omega) | (simp only [byteE_len, mvE_len, strE_len, intE_len, esC_len, List.length_cons, List.length_nil, List.length_append, List.length_replicate, List.length_set, Int.toNat_natCast, and_true] at *; omega)) ?_ | refine LoopN.go ?_ | exact trivial | refine AltVC.mk ?_ ?_ | refine HeldVC.mk rfl ?_ | refine CallVC.pure h1 rfl ?_ | refine CallVC.res [1000, 5] rfl h2 rfl ?_ | refine OpVC.more tt_ok ?_ | refine RestVC.ext tt_ok ?_)); all_goals (conv => whnf)
        all_goals first
          | (exfalso; omega)
          | exact RetVC.res (by simp [vb, hml]; omega) rfl
    · rw [decide_eq_false h100]
      (repeat' ((conv => whnf); first | refine CondVC.t ?_ | refine CondVC.f ?_ | refine CondVC.dec (fun h => ?_) (fun h => ?_) | refine CondVC.ndec (fun h => ?_) (fun h => ?_) | refine CondVC.mk (fun h => ?_) (fun h => ?_) | refine ArVC.i64 (by first | omega | (simp only; omega)) ?_ | refine SideVC.mk (by first | omega | decide | (simp only; omega) | (simp [slS]; done) | (simp [slS]; omega) | (simp only [byteE_len, mvE_len, strE_len, intE_len, esC_len, List.length_cons, List.length_nil, List.length_append, List.length_replicate, List.length_set, Int.toNat_natCast, and_true] at *; omega)) ?_ | refine LoopN.go ?_ | exact trivial | refine AltVC.mk ?_ ?_ | refine HeldVC.mk rfl ?_ | refine CallVC.pure h1 rfl ?_ | refine OpVC.more tt_ok ?_ | refine RestVC.ext tt_ok ?_)); all_goals (conv => whnf)
      all_goals first
        | (exfalso; omega)
        | exact RetVC.res rfl rfl
  | false =>
    rw [hl] at h1
    (repeat' ((conv => whnf); first | refine CondVC.t ?_ | refine CondVC.f ?_ | refine CondVC.dec (fun h => ?_) (fun h => ?_) | refine CondVC.ndec (fun h => ?_) (fun h => ?_) | refine CondVC.mk (fun h => ?_) (fun h => ?_) | refine ArVC.i64 (by first | omega | (simp only; omega)) ?_ | refine SideVC.mk (by first | omega | decide | (simp only; omega) | (simp [slS]; done) | (simp [slS]; omega) | (simp only [byteE_len, mvE_len, strE_len, intE_len, esC_len, List.length_cons, List.length_nil, List.length_append, List.length_replicate, List.length_set, Int.toNat_natCast, and_true] at *; omega)) ?_ | refine LoopN.go ?_ | exact trivial | refine AltVC.mk ?_ ?_ | refine HeldVC.mk rfl ?_ | refine CallVC.pure h1 rfl ?_ | refine OpVC.more tt_ok ?_ | refine RestVC.ext tt_ok ?_)); all_goals (conv => whnf)
    all_goals exact RetVC.res rfl rfl
theorem specPlayByRule_spec (w : Tx) (l : List Mv) (o bk lg : Bool) (ob : Obj) (hw : w.length ≤ 1048576) (hll : l.length ≤ 2000000) :
    Spec Tryd.prog 24 [.c (.str w), .c (.sl 1000), ruleV o bk lg] [(1000, .ro ob 33 2 (mvE l))]
    (isRes [.c (.str (plEnd w o bk lg l)), vb (plOk w o bk lg l)] [(1000, .ro ob 33 2 (mvE l))]) := by
  have hml := mvE_len l
  have h1 := reFew_spec w hw
  have hpl : plEnd w o bk lg l = if plOk w o bk lg l then wAt w l l.length else [] := rfl
  by_cases hq : lineOf w 10 = true ∧ l.length ≤ 100
  · obtain ⟨hl, h100⟩ := hq
    have hpo : plOk w o bk lg l = decide (cntP (fun w m => rcF w o bk lg m) w l = l.length) := by unfold plOk; rw [hl, decide_eq_true h100]; rfl
    rw [hl] at h1
    refine Spec.of_wpx tt_ok Tryd.func24 (by kernel_rfl) rfl ?_
    (repeat' ((conv => whnf); first | refine CondVC.t ?_ | refine CondVC.f ?_ | refine CondVC.dec (fun h => ?_) (fun h => ?_) | refine CondVC.ndec (fun h => ?_) (fun h => ?_) | refine CondVC.mk (fun h => ?_) (fun h => ?_) | refine ArVC.i64 (by first | omega | (simp only; omega)) ?_ | refine SideVC.mk (by first | omega | decide | (simp only; omega) | (simp [slS]; done) | (simp [slS]; omega) | (simp only [byteE_len, mvE_len, strE_len, intE_len, esC_len, List.length_cons, List.length_nil, List.length_append, List.length_replicate, List.length_set, Int.toNat_natCast, and_true] at *; omega)) ?_ | refine LoopN.go ?_ | exact trivial | refine AltVC.mk ?_ ?_ | refine HeldVC.mk rfl ?_ | refine CallVC.pure h1 rfl ?_ | refine OpVC.more tt_ok ?_ | refine RestVC.ext tt_ok ?_)); all_goals (conv => whnf)
    all_goals try (exfalso; omega)
    refine LoopVC.mk (G := Nat) (fun k => ⟨[(20, .v (i64 k)), (19, .v (i64 l.length)), (18, .v (.c (.sl 1000))), (5, .v (.c (.ptr 5 0))), (0, .v (.c (.str (wAt w l k))))], [(1000, .ro ob 33 2 (mvE l)), (5, .box 31 [.bool o, .bool bk, .bool lg])]⟩)
      (fun k => k ≤ l.length ∧ ∀ j (hj : j < l.length), j < k → rcF (wAt w l j) o bk lg l[j] = true) (fun k => l.length - k) 0 ⟨by omega, fun j hj h => by omega⟩ (Sub.mk [] _ ⟨rfl, by rw [← hml]; rfl, rfl, rfl, by rw [wAt_zero]; rfl, trivial⟩ rfl rfl) ?_
    intro k ⟨hk, hall⟩
    by_cases hlt : k < l.length
    · have g1 : (mvE l)[(k : Int).toNat]? = some (mvC l[k]) := by rw [Int.toNat_natCast]; exact mvE_get hlt
      have hli := wAt_line hl k (by omega) hall
      have h2 := ruCan_spec (wAt w l k) l[k] o bk lg (by have := (few12 hli).2; omega)
      have hsu := wAt_succ w hlt
      cases hc : rcF (wAt w l k) o bk lg l[k] with
      | true =>
        rw [hc] at h2
        have hin := rc_iff.1 hc
        have h3 := liMake_spec (wAt w l k) l[k] hin.1 hin.2.1 (rc_ne hc) (by have := (few12 hli).2; omega)
        rw [← hsu] at h3
        obtain ⟨w2, hw2⟩ : ∃ w2, w2 = wAt w l (k + 1) := ⟨_, rfl⟩
        rw [← hw2] at h3
        (repeat' ((conv => whnf); first | refine CondVC.t ?_ | refine CondVC.f ?_ | refine CondVC.dec (fun h => ?_) (fun h => ?_) | refine CondVC.ndec (fun h => ?_) (fun h => ?_) | refine CondVC.mk (fun h => ?_) (fun h => ?_) | refine ArVC.i64 (by first | omega | (simp only; omega)) ?_ | refine SideVC.mk (by first | omega | decide | (simp only; omega) | (simp [slS]; done) | (simp [slS]; omega) | (simp only [byteE_len, mvE_len, strE_len, intE_len, esC_len, List.length_cons, List.length_nil, List.length_append, List.length_replicate, List.length_set, Int.toNat_natCast, and_true] at *; omega)) ?_ | refine LoopN.go ?_ | exact trivial | refine AltVC.mk ?_ ?_ | refine HeldVC.mk rfl ?_ | refine LoadVC.mk _ g1 ?_ | refine SideVC.mk (by rw [hml]; omega) ?_ | refine CallVC.pure h2 rfl ?_ | refine CallVC.pure h3 rfl ?_ | refine OpVC.more tt_ok ?_ | refine RestVC.ext tt_ok ?_)); all_goals (conv => whnf)
        all_goals first
          | (exfalso; omega)
          | exact ⟨k + 1, ⟨by omega, fun j hj h => by
              by_cases e : j = k
              · subst e; exact hc
              · exact hall j hj (by omega)⟩, by omega, Sub.mk [] _ ⟨rfl, rfl, rfl, rfl, by rw [← hw2]; rfl, trivial⟩ rfl rfl⟩
      | false =>
        rw [hc] at h2
        have hcn := cntP_at (p := fun w m => rcF w o bk lg m) hlt hall hc
        have hpf : plOk w o bk lg l = false := by rw [hpo, hcn]; exact decide_eq_false (by omega)
        rw [hpl, hpf, if_neg Bool.false_ne_true]
        (repeat' ((conv => whnf); first | refine CondVC.t ?_ | refine CondVC.f ?_ | refine CondVC.dec (fun h => ?_) (fun h => ?_) | refine CondVC.ndec (fun h => ?_) (fun h => ?_) | refine CondVC.mk (fun h => ?_) (fun h => ?_) | refine ArVC.i64 (by first | omega | (simp only; omega)) ?_ | refine SideVC.mk (by first | omega | decide | (simp only; omega) | (simp [slS]; done) | (simp [slS]; omega) | (simp only [byteE_len, mvE_len, strE_len, intE_len, esC_len, List.length_cons, List.length_nil, List.length_append, List.length_replicate, List.length_set, Int.toNat_natCast, and_true] at *; omega)) ?_ | refine LoopN.go ?_ | exact trivial | refine AltVC.mk ?_ ?_ | refine HeldVC.mk rfl ?_ | refine LoadVC.mk _ g1 ?_ | refine SideVC.mk (by rw [hml]; omega) ?_ | refine CallVC.pure h2 rfl ?_ | refine OpVC.more tt_ok ?_ | refine RestVC.ext tt_ok ?_)); all_goals (conv => whnf)
        all_goals first
          | (exfalso; omega)
          | exact RetVC.res rfl rfl
    · have e : k = l.length := by omega
      have hcn := cntP_end (p := fun w m => rcF w o bk lg m) (w := w) (l := l) fun j hj => hall j hj (by omega)
      have hpf : plOk w o bk lg l = true := by rw [hpo, hcn]; exact decide_eq_true rfl
      rw [hpl, hpf, if_pos rfl]
      subst e
      (repeat' ((conv => whnf); first | refine CondVC.t ?_ | refine CondVC.f ?_ | refine CondVC.dec (fun h => ?_) (fun h => ?_) | refine CondVC.ndec (fun h => ?_) (fun h => ?_) | refine CondVC.mk (fun h => ?_) (fun h => ?_) | refine ArVC.i64 (by first | omega | (simp only; omega)) ?_ | refine SideVC.mk (by first | omega | decide | (simp only; omega) | (simp [slS]; done) | (simp [slS]; omega) | (simp only [byteE_len, mvE_len, strE_len, intE_len, esC_len, List.length_cons, List.length_nil, List.length_append, List.length_replicate, List.length_set, Int.toNat_natCast, and_true] at *; omega)) ?_ | refine LoopN.go ?_ | exact trivial | refine AltVC.mk ?_ ?_ | refine HeldVC.mk rfl ?_ | refine OpVC.more tt_ok ?_ | refine RestVC.ext tt_ok ?_)); all_goals (conv => whnf)
      all_goals first
        | (exfalso; omega)
        | exact RetVC.res rfl rfl
  · have hpf : plOk w o bk lg l = false := by
      unfold plOk
      cases hl : lineOf w 10 with
      | false => rfl
      | true => rw [decide_eq_false (fun h => hq ⟨hl, h⟩)]; rfl
    rw [hpl, hpf, if_neg Bool.false_ne_true]
    cases hl : lineOf w 10 with
    | true =>
      rw [hl] at h1
      have h100 : ¬ l.length ≤ 100 := fun h => hq ⟨hl, h⟩
      refine Spec.of_wpx tt_ok Tryd.func24 (by kernel_rfl) rfl ?_
      (repeat' ((conv => whnf); first | refine CondVC.t ?_ | refine CondVC.f ?_ | refine CondVC.dec (fun h => ?_) (fun h => ?_) | refine CondVC.ndec (fun h => ?_) (fun h => ?_) | refine CondVC.mk (fun h => ?_) (fun h => ?_) | refine ArVC.i64 (by first | omega | (simp only; omega)) ?_ | refine SideVC.mk (by first | omega | decide | (simp only; omega) | (simp [slS]; done) | (simp [slS]; omega) | (simp only [byteE_len, mvE_len, strE_len, intE_len, esC_len, List.length_cons, List.length_nil, List.length_append, List.length_replicate, List.length_set, Int.toNat_natCast, and_true] at *; omega)) ?_ | refine LoopN.go ?_ | exact trivial | refine AltVC.mk ?_ ?_ | refine HeldVC.mk rfl ?_ | refine CallVC.pure h1 rfl ?_ | refine OpVC.more tt_ok ?_ | refine RestVC.ext tt_ok ?_)); all_goals (conv => whnf)
      all_goals first
        | (exfalso; omega)
        | exact RetVC.res rfl rfl
    | false =>
      rw [hl] at h1
      refine Spec.of_wpx tt_ok Tryd.func24 (by kernel_rfl) rfl ?_
      (repeat' ((conv => whnf); first | refine CondVC.t ?_ | refine CondVC.f ?_ | refine CondVC.dec (fun h => ?_) (fun h => ?_) | refine CondVC.ndec (fun h => ?_) (fun h => ?_) | refine CondVC.mk (fun h => ?_) (fun h => ?_) | refine ArVC.i64 (by first | omega | (simp only; omega)) ?_ | refine SideVC.mk (by first | omega | decide | (simp only; omega) | (simp [slS]; done) | (simp [slS]; omega) | (simp only [byteE_len, mvE_len, strE_len, intE_len, esC_len, List.length_cons, List.length_nil, List.length_append, List.length_replicate, List.length_set, Int.toNat_natCast, and_true] at *; omega)) ?_ | refine LoopN.go ?_ | exact trivial | refine AltVC.mk ?_ ?_ | refine HeldVC.mk rfl ?_ | refine CallVC.pure h1 rfl ?_ | refine OpVC.more tt_ok ?_ | refine RestVC.ext tt_ok ?_)); all_goals (conv => whnf)
      all_goals first
        | (exfalso; omega)
        | exact RetVC.res rfl rfl
end Go.Proofs.YtaidpalamhmghaaDoor.X
