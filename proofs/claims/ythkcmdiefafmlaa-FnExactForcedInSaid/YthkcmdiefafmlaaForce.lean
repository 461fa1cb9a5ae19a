/- Moves of an exchange that were forced. No condition beyond each statement's. -/
import Derived.Test.YthkcmdiefafmlaaForced
namespace Go.Proofs.Ythkcmdiefafmlaa.X
open Go.Proofs
set_option maxRecDepth 100000
set_option linter.unusedVariables false
set_option linter.unusedSimpArgs false

def isXF (x y z : Int) (l : List Mv) : Bool := (numsF x y z 8 && decide ((l.length : Int) ≤ 100)) && (decide (cntF (firstF x.toNat y.toNat z.toNat) l = l.length) && decide (wAt (firstF x.toNat y.toNat z.toNat) l l.length = lastF (firstF x.toNat y.toNat z.toNat)))
theorem lastF_ne {w : Tx} (h : 1 ≤ w.length) (hok : w.all okCh = true) : lastF w ≠ [] := by
  intro e
  have h1 := lastF_len w
  rw [e] at h1
  simp only [List.length_nil] at h1
  cases w with
  | nil => simp at h
  | cons b w =>
    have hb := List.all_eq_true.1 hok b List.mem_cons_self
    simp only [okCh, Bool.or_eq_true, decide_eq_true_eq] at hb
    simp only [List.count_cons] at h1
    rcases hb with rfl | rfl | rfl <;> simp at h1 <;> omega
theorem implIsExchange_spec (x y z : Int) (l : List Mv) (hl : l.length ≤ 2000000) : Spec Try.prog 54 [i64 x, i64 y, i64 z, .c (.sl 1000)] [(1000, .sl 60 2 (mvE l))]
    (isRes [vb (isXF x y z l), vb (numsF x y z 8 && decide ((l.length : Int) ≤ 100))] [(1000, .sl 60 2 (mvE l))]) := by
  have h1 := areCounts_spec x y z 8 (by omega)
  have hml := mvE_len l
  unfold isXF
  refine Spec.of_wpx tt_ok Try.func54 (by kernel_rfl) rfl ?_
  cases hn : numsF x y z 8 with
  | false =>
    rw [hn] at h1
    simp only [Bool.false_and]
    (repeat' ((conv => whnf); first | refine CondVC.t ?_ | refine CondVC.f ?_ | refine CondVC.dec (fun h => ?_) (fun h => ?_) | refine CondVC.ndec (fun h => ?_) (fun h => ?_) | refine CondVC.mk (fun h => ?_) (fun h => ?_) | refine ArVC.i64 (by first | omega | (simp only; omega)) ?_ | refine SideVC.mk (by first | omega | decide | (simp only; omega) | (simp [slS]; done) | (simp [slS]; omega) | (simp only [byteE_len, mvE_len, strE_len, intE_len, esC_len, List.length_cons, List.length_nil, List.length_append, List.length_replicate, List.length_set, Int.toNat_natCast, and_true] at *; omega)) ?_ | refine LoopN.go ?_ | exact trivial | refine AltVC.mk ?_ ?_ | refine HeldVC.mk rfl ?_ | refine CallVC.pure h1 rfl ?_ | refine OpVC.more tt_ok ?_ | refine RestVC.ext tt_ok ?_)); all_goals (conv => whnf)
    all_goals exact RetVC.res rfl rfl
  | true =>
    obtain ⟨a, b, c, rfl, rfl, rfl, hge, hle⟩ := nums_cast hn
    rw [hn] at h1
    simp only [Int.toNat_natCast, Bool.true_and]
    have hfl := firstF_len a b c
    have hok := firstF_ok a b c
    have h2 := implFirst_spec a b c (by omega) (by omega) (by omega)
    have h3 := implLast_spec (firstF a b c) (by omega)
    have h4 := played_spec (firstF a b c) l (by omega) hl
    have hne := lastF_ne (w := firstF a b c) (by omega) hok
    by_cases h100 : (l.length : Int) ≤ 100
    · rw [decide_eq_true h100]
      simp only [Bool.true_and]
      have hres : (decide (cntF (firstF a b c) l = l.length) && decide (wAt (firstF a b c) l l.length = lastF (firstF a b c))) = decide ((if cntF (firstF a b c) l = l.length then wAt (firstF a b c) l l.length else []) = lastF (firstF a b c)) := by
        by_cases e : cntF (firstF a b c) l = l.length
        · rw [if_pos e, decide_eq_true e, Bool.true_and]
        · rw [if_neg e, decide_eq_false e, Bool.false_and, eq_comm, decide_eq_false_iff_not]
          exact Ne.symm hne
      rw [hres]
      generalize (if cntF (firstF a b c) l = l.length then wAt (firstF a b c) l l.length else []) = e1 at *
      generalize cntF (firstF a b c) l = e2 at *
      generalize lastF (firstF a b c) = e3 at *
      generalize firstF a b c = w at *
      (repeat' ((conv => whnf); first | refine CondVC.t ?_ | refine CondVC.f ?_ | refine CondVC.dec (fun h => ?_) (fun h => ?_) | refine CondVC.ndec (fun h => ?_) (fun h => ?_) | refine CondVC.mk (fun h => ?_) (fun h => ?_) | refine ArVC.i64 (by first | omega | (simp only; omega)) ?_ | refine SideVC.mk (by first | omega | decide | (simp only; omega) | (simp [slS]; done) | (simp [slS]; omega) | (simp only [byteE_len, mvE_len, strE_len, intE_len, esC_len, List.length_cons, List.length_nil, List.length_append, List.length_replicate, List.length_set, Int.toNat_natCast, and_true] at *; omega)) ?_ | refine LoopN.go ?_ | exact trivial | refine AltVC.mk ?_ ?_ | refine HeldVC.mk rfl ?_ | refine CallVC.pure h1 rfl ?_ | refine CallVC.pure h2 rfl ?_ | refine CallVC.res [1000] rfl h4 rfl ?_ | refine CallVC.pure h3 rfl ?_ | refine OpVC.more tt_ok ?_ | refine RestVC.ext tt_ok ?_)); all_goals (conv => whnf)
      all_goals first
        | (exfalso; omega)
        | exact RetVC.res rfl rfl
    · rw [decide_eq_false h100]
      simp only [Bool.false_and]
      (repeat' ((conv => whnf); first | refine CondVC.t ?_ | refine CondVC.f ?_ | refine CondVC.dec (fun h => ?_) (fun h => ?_) | refine CondVC.ndec (fun h => ?_) (fun h => ?_) | refine CondVC.mk (fun h => ?_) (fun h => ?_) | refine ArVC.i64 (by first | omega | (simp only; omega)) ?_ | refine SideVC.mk (by first | omega | decide | (simp only; omega) | (simp [slS]; done) | (simp [slS]; omega) | (simp only [byteE_len, mvE_len, strE_len, intE_len, esC_len, List.length_cons, List.length_nil, List.length_append, List.length_replicate, List.length_set, Int.toNat_natCast, and_true] at *; omega)) ?_ | refine LoopN.go ?_ | exact trivial | refine AltVC.mk ?_ ?_ | refine HeldVC.mk rfl ?_ | refine CallVC.pure h1 rfl ?_ | refine OpVC.more tt_ok ?_ | refine RestVC.ext tt_ok ?_)); all_goals (conv => whnf)
      all_goals first
        | (exfalso; omega)
        | exact RetVC.res rfl rfl
theorem swIs_spec (a b c : Nat) (h : 1 ≤ a + b + c ∧ a + b + c ≤ 8) (l : List Mv) (hl : l.length ≤ 2000000) : Spec Try.prog 50 [i64 a, i64 b, i64 c, .c (.sl 1000)] [(1000, .sl 60 2 (mvE l))]
    (isRes [vb (decide (cntF (firstF a b c) l = l.length) && decide (wAt (firstF a b c) l l.length = lastF (firstF a b c)))] [(1000, .sl 60 2 (mvE l))]) := by
  have hml := mvE_len l
  have hfl := firstF_len a b c
  have hok := firstF_ok a b c
  have h2 := liFirst_spec a b c (by omega) (by omega) (by omega)
  have h4 := liPlay_spec (firstF a b c) l hok (by omega) hl
  have hcl := cntF_le l (firstF a b c)
  refine Spec.of_wpx tt_ok Try.func50 (by kernel_rfl) rfl ?_
  by_cases e : cntF (firstF a b c) l = l.length
  · have hall := cntF_all e
    obtain ⟨hok2, hlast⟩ := wAt_ok hok l.length (Nat.le_refl _) fun j hj _ => hall j hj
    have hwl := wAt_len (firstF a b c) l l.length
    have h3 := liLast_spec (wAt (firstF a b c) l l.length) (by omega)
    rw [hlast] at h3
    rw [decide_eq_true e, Bool.true_and]
    rw [e] at h4
    generalize wAt (firstF a b c) l l.length = e1 at *
    generalize lastF (firstF a b c) = e3 at *
    generalize firstF a b c = w at *
    (repeat' ((conv => whnf); first | refine CondVC.t ?_ | refine CondVC.f ?_ | refine CondVC.dec (fun h => ?_) (fun h => ?_) | refine CondVC.ndec (fun h => ?_) (fun h => ?_) | refine CondVC.mk (fun h => ?_) (fun h => ?_) | refine ArVC.i64 (by first | omega | (simp only; omega)) ?_ | refine SideVC.mk (by first | omega | decide | (simp only; omega) | (simp [slS]; done) | (simp [slS]; omega) | (simp only [byteE_len, mvE_len, strE_len, intE_len, esC_len, List.length_cons, List.length_nil, List.length_append, List.length_replicate, List.length_set, Int.toNat_natCast, and_true] at *; omega)) ?_ | refine LoopN.go ?_ | exact trivial | refine AltVC.mk ?_ ?_ | refine HeldVC.mk rfl ?_ | refine CallVC.pure h2 rfl ?_ | refine CallVC.res [1000] rfl h4 rfl ?_ | refine CallVC.pure h3 rfl ?_ | refine OpVC.more tt_ok ?_ | refine RestVC.ext tt_ok ?_)); all_goals (conv => whnf)
    all_goals first
      | (exfalso; omega)
      | exact RetVC.res rfl rfl
  · rw [decide_eq_false e, Bool.false_and]
    generalize wAt (firstF a b c) l (cntF (firstF a b c) l) = e1 at *
    generalize cntF (firstF a b c) l = e2 at *
    generalize firstF a b c = w at *
    (repeat' ((conv => whnf); first | refine CondVC.t ?_ | refine CondVC.f ?_ | refine CondVC.dec (fun h => ?_) (fun h => ?_) | refine CondVC.ndec (fun h => ?_) (fun h => ?_) | refine CondVC.mk (fun h => ?_) (fun h => ?_) | refine ArVC.i64 (by first | omega | (simp only; omega)) ?_ | refine SideVC.mk (by first | omega | decide | (simp only; omega) | (simp [slS]; done) | (simp [slS]; omega) | (simp only [byteE_len, mvE_len, strE_len, intE_len, esC_len, List.length_cons, List.length_nil, List.length_append, List.length_replicate, List.length_set, Int.toNat_natCast, and_true] at *; omega)) ?_ | refine LoopN.go ?_ | exact trivial | refine AltVC.mk ?_ ?_ | refine HeldVC.mk rfl ?_ | refine CallVC.pure h2 rfl ?_ | refine CallVC.res [1000] rfl h4 rfl ?_ | refine OpVC.more tt_ok ?_ | refine RestVC.ext tt_ok ?_)); all_goals (conv => whnf)
    all_goals first
      | (exfalso; omega)
      | exact RetVC.res rfl rfl
theorem swMoves_spec (x y z : Int) (l : List Mv) : Spec Try.prog 49 [i64 x, i64 y, i64 z, .c (.sl 1000)] [(1000, .sl 60 2 (mvE l))]
    (isRes [vb (numsF x y z 8 && decide ((l.length : Int) ≤ 100))] [(1000, .sl 60 2 (mvE l))]) := by
  have h1 := swNumbers_spec x y z
  have hml := mvE_len l
  refine Spec.of_wpx tt_ok Try.func49 (by kernel_rfl) rfl ?_
  cases hn : numsF x y z 8 with
  | false =>
    rw [hn] at h1
    (repeat' ((conv => whnf); first | refine CondVC.t ?_ | refine CondVC.f ?_ | refine CondVC.dec (fun h => ?_) (fun h => ?_) | refine CondVC.ndec (fun h => ?_) (fun h => ?_) | refine CondVC.mk (fun h => ?_) (fun h => ?_) | refine ArVC.i64 (by first | omega | (simp only; omega)) ?_ | refine SideVC.mk (by first | omega | decide | (simp only; omega) | (simp [slS]; done) | (simp [slS]; omega) | (simp only [byteE_len, mvE_len, strE_len, intE_len, esC_len, List.length_cons, List.length_nil, List.length_append, List.length_replicate, List.length_set, Int.toNat_natCast, and_true] at *; omega)) ?_ | refine LoopN.go ?_ | exact trivial | refine AltVC.mk ?_ ?_ | refine HeldVC.mk rfl ?_ | refine CallVC.pure h1 rfl ?_ | refine OpVC.more tt_ok ?_ | refine RestVC.ext tt_ok ?_)); all_goals (conv => whnf)
    all_goals exact RetVC.res rfl rfl
  | true =>
    rw [hn] at h1
    (repeat' ((conv => whnf); first | refine CondVC.t ?_ | refine CondVC.f ?_ | refine CondVC.dec (fun h => ?_) (fun h => ?_) | refine CondVC.ndec (fun h => ?_) (fun h => ?_) | refine CondVC.mk (fun h => ?_) (fun h => ?_) | refine ArVC.i64 (by first | omega | (simp only; omega)) ?_ | refine SideVC.mk (by first | omega | decide | (simp only; omega) | (simp [slS]; done) | (simp [slS]; omega) | (simp only [byteE_len, mvE_len, strE_len, intE_len, esC_len, List.length_cons, List.length_nil, List.length_append, List.length_replicate, List.length_set, Int.toNat_natCast, and_true] at *; omega)) ?_ | refine LoopN.go ?_ | exact trivial | refine AltVC.mk ?_ ?_ | refine HeldVC.mk rfl ?_ | refine CallVC.pure h1 rfl ?_ | refine OpVC.more tt_ok ?_ | refine RestVC.ext tt_ok ?_)); all_goals (conv => whnf)
    all_goals exact RetVC.res (by rw [hml]; rfl) rfl

/-! ### Live moves by the reference -/
theorem swLiveMoves_spec (w : Tx) (hok : w.all okCh = true) (hw : w.length ≤ 8) (x0 : Wy) (hx0 : okEn x0) : Spec Try.prog 51 [.c (.ptr 1000 0), .c (.str w)] (enM x0)
    (exRes okEn (fun _ => [.c (.sl 1021)]) (fun x => [(1021, .sl 60 2 (mvE (liveF (lastF w) w))), (1000, .box 49 [.sl 1011, .sl 1012]), (1011, .sl 9 1 (strE x.1)), (1012, .sl 3 1 (intE x.2))])) := by
  have h5 := liMoves_spec w true true hok (by omega)
  rw [liMoves_eq hok] at h5
  have ekd : kindsF true true = both := rfl
  rw [ekd] at h5
  have h5 := Spec.ren [(1001, 2001)] [(2001, 1001)] h5 rfl rfl rfl
  have hin : ∀ m ∈ movesF w both, _ := fun m hm => movesF_in hm
  have hll := movesF_len w both
  have hmk : ∀ m ∈ movesF w both, _ := fun m hm => liMake_spec w m (hin m hm).1 (hin m hm).2.1 (hin m hm).2.2 (by omega)
  have hW : ∀ m ∈ movesF w both, ∀ x, okEn x → _ := fun m hm x hx => by
    have h1 := ends_all (madeF w m) (by rw [madeF_len]; omega) (okCh_made hok (by have := (hin m hm).1; omega)) x hx
    rw [lastF_made hm] at h1
    unfold enM enR at h1
    exact Spec.renE [(1001, 3001), (1002, 3002), (1011, 3011), (1012, 3012)] [(3001, 1001), (3002, 1002), (3011, 1011), (3012, 1012)] h1 (fun _ => rfl) (fun _ => rfl) rfl
  have hnn : ∀ m, 0 ≤ wp (lastF w) (madeF w m) := fun m => by rw [wp_few (by rw [madeF_len]; exact hw)]; omega
  have hend : keepQ (movesF w both) (fun m => decide (wp (lastF w) (madeF w m) = 0)) (movesF w both).length = liveF (lastF w) w := by unfold keepQ liveF; rw [List.take_length]
  have hsucc : ∀ k (h : k < (movesF w both).length), _ := fun k h => keepQ_succ (l := movesF w both) (p := fun m => decide (wp (lastF w) (madeF w m) = 0)) h
  have hkl := fun k => keepQ_len (movesF w both) (fun m => decide (wp (lastF w) (madeF w m) = 0)) k
  have h0 : keepQ (movesF w both) (fun m => decide (wp (lastF w) (madeF w m) = 0)) 0 = [] := rfl
  generalize keepQ (movesF w both) (fun m => decide (wp (lastF w) (madeF w m) = 0)) = kf at *
  generalize liveF (lastF w) w = bl at *
  generalize lastF w = g at *
  generalize movesF w both = l at *
  have hml := mvE_len l
  unfold enM
  refine Spec.of_wpx tt_ok Try.func51 (by kernel_rfl) rfl ?_
  (repeat' ((conv => whnf); first | refine CondVC.t ?_ | refine CondVC.f ?_ | refine CondVC.dec (fun h => ?_) (fun h => ?_) | refine CondVC.ndec (fun h => ?_) (fun h => ?_) | refine CondVC.mk (fun h => ?_) (fun h => ?_) | refine ArVC.i64 (by first | omega | (simp only; omega)) ?_ | refine SideVC.mk (by first | omega | decide | (simp only; omega) | (simp [slS]; done) | (simp [slS]; omega) | (simp only [byteE_len, mvE_len, strE_len, intE_len, esC_len, List.length_cons, List.length_nil, List.length_append, List.length_replicate, List.length_set, Int.toNat_natCast, and_true] at *; omega)) ?_ | refine LoopN.go ?_ | exact trivial | refine AltVC.mk ?_ ?_ | refine HeldVC.mk rfl ?_ | refine CallVC.res [] rfl h5 rfl ?_ | refine OpVC.more tt_ok ?_ | refine RestVC.ext tt_ok ?_)); all_goals (conv => whnf)
  refine LoopVC.mk (G := Nat × Wy) (fun γ => ⟨[(11, .v (i64 γ.1)), (10, .v (i64 l.length)), (9, .v (.c (.sl 2001))), (5, .v (.c (.sl 1021))), (1, .v (.c (.str w))), (0, .v (.c (.ptr 1000 0)))],
      [(1021, .sl 60 2 (mvE (kf γ.1))), (2001, .sl 60 2 (mvE l)), (1000, .box 49 [.sl 3001, .sl 3002]), (3001, .sl 9 1 (strE γ.2.1)), (3002, .sl 3 1 (intE γ.2.2))]⟩)
    (fun γ => γ.1 ≤ l.length ∧ okEn γ.2) (fun γ => l.length - γ.1) (0, x0) ⟨by omega, hx0⟩
    (Sub.trans (t := ⟨[(11, .v (i64 0)), (10, .v (i64 (mvE l).length)), (9, .v (.c (.sl 2001))), (5, .v (.c (.sl 1021))), (1, .v (.c (.str w))), (0, .v (.c (.ptr 1000 0)))],
      [(1021, .sl 60 2 []), (2001, .sl 60 2 (mvE l)), (1000, .box 49 [.sl 1001, .sl 1002]), (1001, .sl 9 1 (strE x0.1)), (1002, .sl 3 1 (intE x0.2))]⟩)
      (Sub.nil 1021 60 2 ⟨rfl, rfl, rfl, rfl, rfl, rfl, trivial⟩ rfl rfl)
      (Sub.mk [(3001, 1001), (3002, 1002)] [] ⟨rfl, by rw [hml]; rfl, rfl, rfl, rfl, rfl, trivial⟩ (by simp only [h0]; rfl) rfl)) ?_
  rintro ⟨k, x⟩ ⟨hk, hx⟩
  simp only at hk hx
  have hkk := hkl k
  by_cases hlt : k < l.length
  · have hmem := List.getElem_mem hlt
    have g1 : (mvE l)[(k : Int).toNat]? = some (mvC l[k]) := by rw [Int.toNat_natCast]; exact mvE_get hlt
    have h6 := hmk _ hmem
    have h8 := hW _ hmem x hx
    have hs := hsucc k hlt
    have hn := hnn l[k]
    by_cases hb : wp g (madeF w l[k]) = 0
    · simp only [hb, decide_true, if_true, List.append_nil] at hs
      rw [hb] at h8
      generalize madeF w l[k] = w' at h6 h8
      (repeat' ((conv => whnf); first | refine CondVC.t ?_ | refine CondVC.f ?_ | refine CondVC.dec (fun h => ?_) (fun h => ?_) | refine CondVC.ndec (fun h => ?_) (fun h => ?_) | refine CondVC.mk (fun h => ?_) (fun h => ?_) | refine ArVC.i64 (by first | omega | (simp only; omega)) ?_ | refine SideVC.mk (by first | omega | decide | (simp only; omega) | (simp [slS]; done) | (simp [slS]; omega) | (simp only [byteE_len, mvE_len, strE_len, intE_len, esC_len, List.length_cons, List.length_nil, List.length_append, List.length_replicate, List.length_set, Int.toNat_natCast, and_true] at *; omega)) ?_ | refine LoopN.go ?_ | exact trivial | refine AltVC.mk ?_ ?_ | refine HeldVC.mk rfl ?_ | refine LoadVC.mk _ g1 ?_ | refine SideVC.mk (by rw [hml]; omega) ?_ | refine CallVC.pure h6 rfl ?_ | (refine CallVC.ex [1000, 3001, 3002] rfl h8 ?_; intro x' hx'; refine ⟨rfl, ?_⟩) | refine OpVC.more tt_ok ?_ | refine RestVC.ext tt_ok ?_)); all_goals (conv => whnf)
      all_goals first
        | (exfalso; omega)
        | exact ⟨(k + 1, x'), ⟨by omega, hx'.1⟩, by simp only; omega, Sub.mk [(3001, 3011), (3002, 3012)] _ ⟨rfl, rfl, rfl, rfl, rfl, rfl, trivial⟩ (by simp only [hs]; rfl) rfl⟩
    · simp only [hb, decide_false, Bool.false_eq_true, if_false] at hs
      have hm2 : mvE (kf (k + 1)) = mvE (kf k) ++ [mvC l[k]] := by rw [hs, mvE_append]; rfl
      generalize wp g (madeF w l[k]) = q at *
      generalize madeF w l[k] = w' at h6 h8
      (repeat' ((conv => whnf); first | refine CondVC.t ?_ | refine CondVC.f ?_ | refine CondVC.dec (fun h => ?_) (fun h => ?_) | refine CondVC.ndec (fun h => ?_) (fun h => ?_) | refine CondVC.mk (fun h => ?_) (fun h => ?_) | refine ArVC.i64 (by first | omega | (simp only; omega)) ?_ | refine SideVC.mk (by first | omega | decide | (simp only; omega) | (simp [slS]; done) | (simp [slS]; omega) | (simp only [byteE_len, mvE_len, strE_len, intE_len, esC_len, List.length_cons, List.length_nil, List.length_append, List.length_replicate, List.length_set, Int.toNat_natCast, and_true] at *; omega)) ?_ | refine LoopN.go ?_ | exact trivial | refine AltVC.mk ?_ ?_ | refine HeldVC.mk rfl ?_ | refine LoadVC.mk _ g1 ?_ | refine SideVC.mk (by rw [hml]; omega) ?_ | refine SideVC.mk (by simp only [mvE_len, List.length_cons, List.length_nil]; omega) ?_ | refine CallVC.pure h6 rfl ?_ | (refine CallVC.ex [1000, 3001, 3002] rfl h8 ?_; intro x' hx'; refine ⟨rfl, ?_⟩) | refine OpVC.more tt_ok ?_ | refine RestVC.ext tt_ok ?_)); all_goals (conv => whnf)
      all_goals first
        | (exfalso; omega)
        | exact ⟨(k + 1, x'), ⟨by omega, hx'.1⟩, by simp only; omega, Sub.mk [(3001, 3011), (3002, 3012), (1021, 24)] _ ⟨rfl, rfl, rfl, rfl, rfl, rfl, trivial⟩ (by simp only [hm2]; rfl) rfl⟩
  · have ek : k = l.length := by omega
    subst ek
    rw [← hend]
    (repeat' ((conv => whnf); first | refine CondVC.t ?_ | refine CondVC.f ?_ | refine CondVC.dec (fun h => ?_) (fun h => ?_) | refine CondVC.ndec (fun h => ?_) (fun h => ?_) | refine CondVC.mk (fun h => ?_) (fun h => ?_) | refine ArVC.i64 (by first | omega | (simp only; omega)) ?_ | refine SideVC.mk (by first | omega | decide | (simp only; omega) | (simp [slS]; done) | (simp [slS]; omega) | (simp only [byteE_len, mvE_len, strE_len, intE_len, esC_len, List.length_cons, List.length_nil, List.length_append, List.length_replicate, List.length_set, Int.toNat_natCast, and_true] at *; omega)) ?_ | refine LoopN.go ?_ | exact trivial | refine AltVC.mk ?_ ?_ | refine HeldVC.mk rfl ?_ | refine OpVC.more tt_ok ?_ | refine RestVC.ext tt_ok ?_)); all_goals (conv => whnf)
    all_goals first
      | (exfalso; omega)
      | exact RetVC.ren [(1011, 3001), (1012, 3002)] [.c (.sl 1021)] [(1021, .sl 60 2 (mvE (kf l.length))), (1000, .box 49 [.sl 1011, .sl 1012]), (1011, .sl 9 1 (strE x.1)), (1012, .sl 3 1 (intE x.2))] rfl rfl rfl ⟨x, hx, rfl, rfl⟩

def forcedTo (g w : Tx) (l : List Mv) (k : Nat) : Nat := ((List.range k).filter fun j => decide ((liveF g (wAt w l j)).length = 1)).length
theorem forcedTo_zero (g w : Tx) (l : List Mv) : forcedTo g w l 0 = 0 := rfl
theorem forcedTo_succ (g w : Tx) (l : List Mv) (k : Nat) : forcedTo g w l (k + 1) = forcedTo g w l k + if (liveF g (wAt w l k)).length = 1 then 1 else 0 := by
  unfold forcedTo
  rw [List.range_succ, List.filter_append, List.length_append]
  congr 1
  by_cases h : (liveF g (wAt w l k)).length = 1 <;> simp [h]
theorem forcedTo_le (g w : Tx) (l : List Mv) (k : Nat) : forcedTo g w l k ≤ k := Nat.le_trans (List.length_filter_le _ _) (by simp)
def forcedF (x y z : Int) (l : List Mv) : Int := if isXF x y z l then (forcedTo (lastF (firstF x.toNat y.toNat z.toNat)) (firstF x.toNat y.toNat z.toNat) l l.length : Nat) else 0
theorem isXF_ok {x y z : Int} {l : List Mv} (h : isXF x y z l = true) : ∃ a b c : Nat, x = a ∧ y = b ∧ z = c ∧ (1 ≤ a + b + c ∧ a + b + c ≤ 8) ∧ l.length ≤ 100 ∧ numsF a b c 8 = true ∧ (∀ j (hj : j < l.length), canG (wAt (firstF a b c) l j) l[j] = true) := by
  simp only [isXF, Bool.and_eq_true, decide_eq_true_eq] at h
  obtain ⟨⟨h1, h2⟩, h3, h4⟩ := h
  obtain ⟨a, b, c, rfl, rfl, rfl, hge, hle⟩ := nums_cast h1
  simp only [Int.toNat_natCast] at h3
  exact ⟨a, b, c, rfl, rfl, rfl, by omega, by omega, h1, cntF_all h3⟩
theorem implForcedIn_spec (x y z : Int) (l : List Mv) (hl : l.length ≤ 2000000) : Spec Try.prog 24 [i64 x, i64 y, i64 z, .c (.sl 1000)] [(1000, .sl 60 2 (mvE l))]
    (isRes [i64 (forcedF x y z l), vb (isXF x y z l)] [(1000, .sl 60 2 (mvE l))]) := by
  have h1 := implIsExchange_spec x y z l hl
  have hml := mvE_len l
  unfold forcedF
  refine Spec.of_wpx tt_ok Try.func24 (by kernel_rfl) rfl ?_
  cases hx : isXF x y z l with
  | false =>
    rw [hx] at h1
    generalize (numsF x y z 8 && decide ((l.length : Int) ≤ 100)) = b at *
    (repeat' ((conv => whnf); first | refine CondVC.t ?_ | refine CondVC.f ?_ | refine CondVC.dec (fun h => ?_) (fun h => ?_) | refine CondVC.ndec (fun h => ?_) (fun h => ?_) | refine CondVC.mk (fun h => ?_) (fun h => ?_) | refine ArVC.i64 (by first | omega | (simp only; omega)) ?_ | refine SideVC.mk (by first | omega | decide | (simp only; omega) | (simp [slS]; done) | (simp [slS]; omega) | (simp only [byteE_len, mvE_len, strE_len, intE_len, esC_len, List.length_cons, List.length_nil, List.length_append, List.length_replicate, List.length_set, Int.toNat_natCast, and_true] at *; omega)) ?_ | refine LoopN.go ?_ | exact trivial | refine AltVC.mk ?_ ?_ | refine HeldVC.mk rfl ?_ | refine CallVC.res [1000] rfl h1 rfl ?_ | refine OpVC.more tt_ok ?_ | refine RestVC.ext tt_ok ?_)); all_goals (conv => whnf)
    all_goals exact RetVC.res rfl rfl
  | true =>
    obtain ⟨a, b, c, rfl, rfl, rfl, habc, hl100, hnm, hall⟩ := isXF_ok hx
    rw [hx] at h1
    rw [if_pos rfl]
    simp only [Int.toNat_natCast]
    have hbt : (numsF a b c 8 && decide ((l.length : Int) ≤ 100)) = true := by rw [hnm, Bool.true_and, decide_eq_true_eq]; omega
    rw [hbt] at h1
    have h2 := Spec.renE [(1000, 2000)] [(2000, 1000)] (swapOf_spec a b c habc) (fun _ => rfl) (fun _ => rfl) rfl
    have hfl := firstF_len a b c
    generalize hg0 : lastF (firstF a b c) = g at *
    generalize hw0 : firstF a b c = w at *
    generalize wp g w = q0 at *
    (repeat' ((conv => whnf); first | refine CondVC.t ?_ | refine CondVC.f ?_ | refine CondVC.dec (fun h => ?_) (fun h => ?_) | refine CondVC.ndec (fun h => ?_) (fun h => ?_) | refine CondVC.mk (fun h => ?_) (fun h => ?_) | refine ArVC.i64 (by first | omega | (simp only; omega)) ?_ | refine SideVC.mk (by first | omega | decide | (simp only; omega) | (simp [slS]; done) | (simp [slS]; omega) | (simp only [byteE_len, mvE_len, strE_len, intE_len, esC_len, List.length_cons, List.length_nil, List.length_append, List.length_replicate, List.length_set, Int.toNat_natCast, and_true] at *; omega)) ?_ | refine LoopN.go ?_ | exact trivial | refine AltVC.mk ?_ ?_ | refine HeldVC.mk rfl ?_ | refine CallVC.res [1000] rfl h1 rfl ?_ | (refine CallVC.ex [] rfl h2 ?_; intro es1 hes1; refine ⟨rfl, ?_⟩) | refine OpVC.more tt_ok ?_ | refine RestVC.ext tt_ok ?_)); all_goals (conv => whnf)
    refine LoopVC.mk (G := Nat × List (C × V)) (fun γ => ⟨[(38, .v (i64 γ.1)), (37, .v (i64 l.length)), (36, .v (.c (.sl 1000))), (15, .v (i64 (forcedTo g w l γ.1 : Nat))), (12, .v (.c (.str (wAt w l γ.1)))), (13, .v (.c (.ptr 13 0)))],
        [(1000, .sl 60 2 (mvE l)), (13, .box 54 [.str g, .mp 2000]), (2000, .ext (.mp none γ.2))]⟩)
      (fun γ => γ.1 ≤ l.length ∧ okWays g γ.2) (fun γ => l.length - γ.1) (0, es1) ⟨by omega, hes1⟩ (Sub.mk [] _ ⟨rfl, by rw [hml]; rfl, rfl, by rw [forcedTo_zero]; rfl, by rw [wAt_zero]; rfl, rfl, trivial⟩ rfl rfl) ?_
    rintro ⟨k, es⟩ ⟨hk, hes⟩
    simp only at hk hes
    by_cases hlt : k < l.length
    · have g1 : (mvE l)[(k : Int).toNat]? = some (mvC l[k]) := by rw [Int.toNat_natCast]; exact mvE_get hlt
      have hwl := wAt_len w l k
      have hin := movesF_in (canG_mem.1 (hall k hlt))
      have h6 := made_spec (wAt w l k) l[k] hin.1 hin.2.1 (by omega)
      rw [← wAt_succ w hlt] at h6
      have hlv := Spec.renE [(1000, 2000), (1011, 2011)] [(2000, 1000), (2011, 1011)] (live_spec g (wAt w l k) (by omega) es hes) (fun _ => rfl) (fun _ => rfl) rfl
      have hfs := forcedTo_succ g w l k
      have hfl := forcedTo_le g w l k
      generalize hlf : liveF g (wAt w l k) = lv at *
      have hmlv := mvE_len lv
      by_cases h1 : lv.length = 1
      · rw [if_pos h1] at hfs
        generalize forcedTo g w l k = fk at *
        generalize hwk1 : wAt w l (k + 1) = w2 at h6
        generalize wAt w l k = w3 at *
        (repeat' ((conv => whnf); first | refine CondVC.t ?_ | refine CondVC.f ?_ | refine CondVC.dec (fun h => ?_) (fun h => ?_) | refine CondVC.ndec (fun h => ?_) (fun h => ?_) | refine CondVC.mk (fun h => ?_) (fun h => ?_) | refine ArVC.i64 (by first | omega | (simp only; omega)) ?_ | refine SideVC.mk (by first | omega | decide | (simp only; omega) | (simp [slS]; done) | (simp [slS]; omega) | (simp only [byteE_len, mvE_len, strE_len, intE_len, esC_len, List.length_cons, List.length_nil, List.length_append, List.length_replicate, List.length_set, Int.toNat_natCast, and_true] at *; omega)) ?_ | refine LoopN.go ?_ | exact trivial | refine AltVC.mk ?_ ?_ | refine HeldVC.mk rfl ?_ | refine LoadVC.mk _ g1 ?_ | refine SideVC.mk (by rw [hml]; omega) ?_ | (refine CallVC.ex [2000] rfl hlv ?_; intro es2 hes2; refine ⟨rfl, ?_⟩) | refine CallVC.pure h6 rfl ?_ | refine OpVC.more tt_ok ?_ | refine RestVC.ext tt_ok ?_)); all_goals (conv => whnf)
        all_goals first
          | (exfalso; omega)
          | exact ⟨(k + 1, es2), ⟨by omega, hes2⟩, by simp only; omega, Sub.mk [] _ ⟨rfl, rfl, rfl, by rw [hfs]; exact congrArg (fun z => some (E.v (i64 z))) (show (fk : Int) + 1 = ((fk + 1 : Nat) : Int) by omega), by rw [hwk1]; rfl, rfl, trivial⟩ rfl rfl⟩
      · rw [if_neg h1, Nat.add_zero] at hfs
        generalize forcedTo g w l k = fk at *
        generalize hwk1 : wAt w l (k + 1) = w2 at h6
        generalize wAt w l k = w3 at *
        (repeat' ((conv => whnf); first | refine CondVC.t ?_ | refine CondVC.f ?_ | refine CondVC.dec (fun h => ?_) (fun h => ?_) | refine CondVC.ndec (fun h => ?_) (fun h => ?_) | refine CondVC.mk (fun h => ?_) (fun h => ?_) | refine ArVC.i64 (by first | omega | (simp only; omega)) ?_ | refine SideVC.mk (by first | omega | decide | (simp only; omega) | (simp [slS]; done) | (simp [slS]; omega) | (simp only [byteE_len, mvE_len, strE_len, intE_len, esC_len, List.length_cons, List.length_nil, List.length_append, List.length_replicate, List.length_set, Int.toNat_natCast, and_true] at *; omega)) ?_ | refine LoopN.go ?_ | exact trivial | refine AltVC.mk ?_ ?_ | refine HeldVC.mk rfl ?_ | refine LoadVC.mk _ g1 ?_ | refine SideVC.mk (by rw [hml]; omega) ?_ | (refine CallVC.ex [2000] rfl hlv ?_; intro es2 hes2; refine ⟨rfl, ?_⟩) | refine CallVC.pure h6 rfl ?_ | refine OpVC.more tt_ok ?_ | refine RestVC.ext tt_ok ?_)); all_goals (conv => whnf)
        all_goals first
          | (exfalso; omega)
          | exact ⟨(k + 1, es2), ⟨by omega, hes2⟩, by simp only; omega, Sub.mk [] _ ⟨rfl, rfl, rfl, by rw [hfs]; rfl, by rw [hwk1]; rfl, rfl, trivial⟩ rfl rfl⟩
    · have ek : k = l.length := by omega
      subst ek
      (repeat' ((conv => whnf); first | refine CondVC.t ?_ | refine CondVC.f ?_ | refine CondVC.dec (fun h => ?_) (fun h => ?_) | refine CondVC.ndec (fun h => ?_) (fun h => ?_) | refine CondVC.mk (fun h => ?_) (fun h => ?_) | refine ArVC.i64 (by first | omega | (simp only; omega)) ?_ | refine SideVC.mk (by first | omega | decide | (simp only; omega) | (simp [slS]; done) | (simp [slS]; omega) | (simp only [byteE_len, mvE_len, strE_len, intE_len, esC_len, List.length_cons, List.length_nil, List.length_append, List.length_replicate, List.length_set, Int.toNat_natCast, and_true] at *; omega)) ?_ | refine LoopN.go ?_ | exact trivial | refine AltVC.mk ?_ ?_ | refine HeldVC.mk rfl ?_ | refine OpVC.more tt_ok ?_ | refine RestVC.ext tt_ok ?_)); all_goals (conv => whnf)
      all_goals first
        | (exfalso; omega)
        | exact RetVC.res rfl rfl
theorem specForcedIn_spec (x y z : Int) (l : List Mv) (hl : l.length ≤ 2000000) : Spec Try.prog 22 [i64 x, i64 y, i64 z, .c (.sl 1000)] [(1000, .sl 60 2 (mvE l))]
    (isRes [i64 (forcedF x y z l), vb (isXF x y z l)] [(1000, .sl 60 2 (mvE l))]) := by
  have h1 := swMoves_spec x y z l
  have hml := mvE_len l
  unfold forcedF
  refine Spec.of_wpx tt_ok Try.func22 (by kernel_rfl) rfl ?_
  cases hx : isXF x y z l with
  | false =>
    cases hb : (numsF x y z 8 && decide ((l.length : Int) ≤ 100)) with
    | false =>
      rw [hb] at h1
      (repeat' ((conv => whnf); first | refine CondVC.t ?_ | refine CondVC.f ?_ | refine CondVC.dec (fun h => ?_) (fun h => ?_) | refine CondVC.ndec (fun h => ?_) (fun h => ?_) | refine CondVC.mk (fun h => ?_) (fun h => ?_) | refine ArVC.i64 (by first | omega | (simp only; omega)) ?_ | refine SideVC.mk (by first | omega | decide | (simp only; omega) | (simp [slS]; done) | (simp [slS]; omega) | (simp only [byteE_len, mvE_len, strE_len, intE_len, esC_len, List.length_cons, List.length_nil, List.length_append, List.length_replicate, List.length_set, Int.toNat_natCast, and_true] at *; omega)) ?_ | refine LoopN.go ?_ | exact trivial | refine AltVC.mk ?_ ?_ | refine HeldVC.mk rfl ?_ | refine CallVC.res [1000] rfl h1 rfl ?_ | refine OpVC.more tt_ok ?_ | refine RestVC.ext tt_ok ?_)); all_goals (conv => whnf)
      all_goals exact RetVC.res rfl rfl
    | true =>
      have hb' := hb
      simp only [Bool.and_eq_true] at hb'
      obtain ⟨a, b, c, rfl, rfl, rfl, hge, hle⟩ := nums_cast hb'.1
      have h2 := swIs_spec a b c ⟨hge, by omega⟩ l hl
      have e : (decide (cntF (firstF a b c) l = l.length) && decide (wAt (firstF a b c) l l.length = lastF (firstF a b c))) = false := by
        unfold isXF at hx
        rw [hb, Bool.true_and] at hx
        exact hx
      rw [e] at h2
      rw [hb] at h1
      (repeat' ((conv => whnf); first | refine CondVC.t ?_ | refine CondVC.f ?_ | refine CondVC.dec (fun h => ?_) (fun h => ?_) | refine CondVC.ndec (fun h => ?_) (fun h => ?_) | refine CondVC.mk (fun h => ?_) (fun h => ?_) | refine ArVC.i64 (by first | omega | (simp only; omega)) ?_ | refine SideVC.mk (by first | omega | decide | (simp only; omega) | (simp [slS]; done) | (simp [slS]; omega) | (simp only [byteE_len, mvE_len, strE_len, intE_len, esC_len, List.length_cons, List.length_nil, List.length_append, List.length_replicate, List.length_set, Int.toNat_natCast, and_true] at *; omega)) ?_ | refine LoopN.go ?_ | exact trivial | refine AltVC.mk ?_ ?_ | refine HeldVC.mk rfl ?_ | refine CallVC.res [1000] rfl h1 rfl ?_ | refine CallVC.res [1000] rfl h2 rfl ?_ | refine OpVC.more tt_ok ?_ | refine RestVC.ext tt_ok ?_)); all_goals (conv => whnf)
      all_goals exact RetVC.res rfl rfl
  | true =>
    obtain ⟨a, b, c, rfl, rfl, rfl, habc, hl100, hnm, hall⟩ := isXF_ok hx
    rw [if_pos rfl]
    simp only [Int.toNat_natCast]
    have hbt : (numsF a b c 8 && decide ((l.length : Int) ≤ 100)) = true := by rw [hnm, Bool.true_and, decide_eq_true_eq]; omega
    rw [hbt] at h1
    have h2 := swIs_spec a b c habc l hl
    have e : (decide (cntF (firstF a b c) l = l.length) && decide (wAt (firstF a b c) l l.length = lastF (firstF a b c))) = true := by
      unfold isXF at hx
      rw [hbt, Bool.true_and] at hx
      exact hx
    rw [e] at h2
    have h3 := liFirst_spec a b c (by omega) (by omega) (by omega)
    have hfl := firstF_len a b c
    have hok := firstF_ok a b c
    generalize hg0 : lastF (firstF a b c) = g at *
    generalize hw0 : firstF a b c = w at *
    (repeat' ((conv => whnf); first | refine CondVC.t ?_ | refine CondVC.f ?_ | refine CondVC.dec (fun h => ?_) (fun h => ?_) | refine CondVC.ndec (fun h => ?_) (fun h => ?_) | refine CondVC.mk (fun h => ?_) (fun h => ?_) | refine ArVC.i64 (by first | omega | (simp only; omega)) ?_ | refine SideVC.mk (by first | omega | decide | (simp only; omega) | (simp [slS]; done) | (simp [slS]; omega) | (simp only [byteE_len, mvE_len, strE_len, intE_len, esC_len, List.length_cons, List.length_nil, List.length_append, List.length_replicate, List.length_set, Int.toNat_natCast, and_true] at *; omega)) ?_ | refine LoopN.go ?_ | exact trivial | refine AltVC.mk ?_ ?_ | refine HeldVC.mk rfl ?_ | refine CallVC.res [1000] rfl h1 rfl ?_ | refine CallVC.res [1000] rfl h2 rfl ?_ | refine CallVC.pure h3 rfl ?_ | refine OpVC.more tt_ok ?_ | refine RestVC.ext tt_ok ?_)); all_goals (conv => whnf)
    refine LoopVC.mk (G := Nat × Wy) (fun γ => ⟨[(37, .v (i64 γ.1)), (36, .v (i64 l.length)), (35, .v (.c (.sl 1000))), (12, .v (i64 (forcedTo g w l γ.1 : Nat))), (11, .v (.c (.str (wAt w l γ.1)))), (10, .v (.c (.ptr 30 0)))],
        [(1000, .sl 60 2 (mvE l)), (30, .box 49 [.sl 3001, .sl 3002]), (3001, .sl 9 1 (strE γ.2.1)), (3002, .sl 3 1 (intE γ.2.2))]⟩)
      (fun γ => γ.1 ≤ l.length ∧ okEn γ.2) (fun γ => l.length - γ.1) (0, ([], [])) ⟨by omega, okEn_nil⟩
      (Sub.trans (t := ⟨[(37, .v (i64 0)), (36, .v (i64 (mvE l).length)), (35, .v (.c (.sl 1000))), (12, .v (i64 0)), (11, .v (.c (.str w))), (10, .v (.c (.ptr 30 0)))],
        [(3001, .sl 9 1 []), (30, .box 49 [.sl 3001, .val (.slice none 0 0)]), (1000, .sl 60 2 (mvE l))]⟩)
        (Sub.nil 3001 9 1 ⟨rfl, rfl, rfl, rfl, rfl, rfl, trivial⟩ rfl rfl)
        (Sub.trans (t := ⟨[(37, .v (i64 0)), (36, .v (i64 (mvE l).length)), (35, .v (.c (.sl 1000))), (12, .v (i64 0)), (11, .v (.c (.str w))), (10, .v (.c (.ptr 30 0)))],
          [(3002, .sl 3 1 []), (3001, .sl 9 1 []), (30, .box 49 [.sl 3001, .sl 3002]), (1000, .sl 60 2 (mvE l))]⟩)
          (Sub.nil 3002 3 1 ⟨rfl, rfl, rfl, rfl, rfl, rfl, trivial⟩ rfl rfl)
          (Sub.mk [] [] ⟨rfl, by rw [hml]; rfl, rfl, by rw [forcedTo_zero]; rfl, by rw [wAt_zero]; rfl, rfl, trivial⟩ rfl rfl))) ?_
    rintro ⟨k, x⟩ ⟨hk, hx⟩
    simp only at hk hx
    by_cases hlt : k < l.length
    · have g1 : (mvE l)[(k : Int).toNat]? = some (mvC l[k]) := by rw [Int.toNat_natCast]; exact mvE_get hlt
      have hwl := wAt_len w l k
      obtain ⟨hokk, hlk⟩ := wAt_ok hok k (by omega) fun j hj _ => hall j hj
      rw [hg0] at hlk
      have hin := movesF_in (canG_mem.1 (hall k hlt))
      have h6 := liMake_spec (wAt w l k) l[k] hin.1 hin.2.1 hin.2.2 (by omega)
      rw [← wAt_succ w hlt] at h6
      have hlv := swLiveMoves_spec (wAt w l k) hokk (by omega) x hx
      rw [hlk] at hlv
      unfold enM at hlv
      have hlv := Spec.renE [(1000, 30), (1001, 3001), (1002, 3002), (1011, 3011), (1012, 3012), (1021, 3021)] [(30, 1000), (3001, 1001), (3002, 1002), (3011, 1011), (3012, 1012), (3021, 1021)] hlv (fun _ => rfl) (fun _ => rfl) rfl
      have hfs := forcedTo_succ g w l k
      have hfl := forcedTo_le g w l k
      generalize hlf : liveF g (wAt w l k) = lv at *
      have hmlv := mvE_len lv
      by_cases h1 : lv.length = 1
      · rw [if_pos h1] at hfs
        generalize forcedTo g w l k = fk at *
        generalize hwk1 : wAt w l (k + 1) = w2 at h6
        generalize wAt w l k = w3 at *
        (repeat' ((conv => whnf); first | refine CondVC.t ?_ | refine CondVC.f ?_ | refine CondVC.dec (fun h => ?_) (fun h => ?_) | refine CondVC.ndec (fun h => ?_) (fun h => ?_) | refine CondVC.mk (fun h => ?_) (fun h => ?_) | refine ArVC.i64 (by first | omega | (simp only; omega)) ?_ | refine SideVC.mk (by first | omega | decide | (simp only; omega) | (simp [slS]; done) | (simp [slS]; omega) | (simp only [byteE_len, mvE_len, strE_len, intE_len, esC_len, List.length_cons, List.length_nil, List.length_append, List.length_replicate, List.length_set, Int.toNat_natCast, and_true] at *; omega)) ?_ | refine LoopN.go ?_ | exact trivial | refine AltVC.mk ?_ ?_ | refine HeldVC.mk rfl ?_ | refine LoadVC.mk _ g1 ?_ | refine SideVC.mk (by rw [hml]; omega) ?_ | (refine CallVC.ex [30, 3001, 3002] rfl hlv ?_; intro x' hx'; refine ⟨rfl, ?_⟩) | refine CallVC.pure h6 rfl ?_ | refine OpVC.more tt_ok ?_ | refine RestVC.ext tt_ok ?_)); all_goals (conv => whnf)
        all_goals first
          | (exfalso; omega)
          | exact ⟨(k + 1, x'), ⟨by omega, hx'⟩, by simp only; omega, Sub.mk [(3001, 3011), (3002, 3012)] _ ⟨rfl, rfl, rfl, by rw [hfs]; exact congrArg (fun z => some (E.v (i64 z))) (show (fk : Int) + 1 = ((fk + 1 : Nat) : Int) by omega), by rw [hwk1]; rfl, rfl, trivial⟩ rfl rfl⟩
      · rw [if_neg h1, Nat.add_zero] at hfs
        generalize forcedTo g w l k = fk at *
        generalize hwk1 : wAt w l (k + 1) = w2 at h6
        generalize wAt w l k = w3 at *
        (repeat' ((conv => whnf); first | refine CondVC.t ?_ | refine CondVC.f ?_ | refine CondVC.dec (fun h => ?_) (fun h => ?_) | refine CondVC.ndec (fun h => ?_) (fun h => ?_) | refine CondVC.mk (fun h => ?_) (fun h => ?_) | refine ArVC.i64 (by first | omega | (simp only; omega)) ?_ | refine SideVC.mk (by first | omega | decide | (simp only; omega) | (simp [slS]; done) | (simp [slS]; omega) | (simp only [byteE_len, mvE_len, strE_len, intE_len, esC_len, List.length_cons, List.length_nil, List.length_append, List.length_replicate, List.length_set, Int.toNat_natCast, and_true] at *; omega)) ?_ | refine LoopN.go ?_ | exact trivial | refine AltVC.mk ?_ ?_ | refine HeldVC.mk rfl ?_ | refine LoadVC.mk _ g1 ?_ | refine SideVC.mk (by rw [hml]; omega) ?_ | (refine CallVC.ex [30, 3001, 3002] rfl hlv ?_; intro x' hx'; refine ⟨rfl, ?_⟩) | refine CallVC.pure h6 rfl ?_ | refine OpVC.more tt_ok ?_ | refine RestVC.ext tt_ok ?_)); all_goals (conv => whnf)
        all_goals first
          | (exfalso; omega)
          | exact ⟨(k + 1, x'), ⟨by omega, hx'⟩, by simp only; omega, Sub.mk [(3001, 3011), (3002, 3012)] _ ⟨rfl, rfl, rfl, by rw [hfs]; rfl, by rw [hwk1]; rfl, rfl, trivial⟩ rfl rfl⟩
    · have ek : k = l.length := by omega
      subst ek
      (repeat' ((conv => whnf); first | refine CondVC.t ?_ | refine CondVC.f ?_ | refine CondVC.dec (fun h => ?_) (fun h => ?_) | refine CondVC.ndec (fun h => ?_) (fun h => ?_) | refine CondVC.mk (fun h => ?_) (fun h => ?_) | refine ArVC.i64 (by first | omega | (simp only; omega)) ?_ | refine SideVC.mk (by first | omega | decide | (simp only; omega) | (simp [slS]; done) | (simp [slS]; omega) | (simp only [byteE_len, mvE_len, strE_len, intE_len, esC_len, List.length_cons, List.length_nil, List.length_append, List.length_replicate, List.length_set, Int.toNat_natCast, and_true] at *; omega)) ?_ | refine LoopN.go ?_ | exact trivial | refine AltVC.mk ?_ ?_ | refine HeldVC.mk rfl ?_ | refine OpVC.more tt_ok ?_ | refine RestVC.ext tt_ok ?_)); all_goals (conv => whnf)
      all_goals first
        | (exfalso; omega)
        | exact RetVC.res rfl rfl

end Go.Proofs.Ythkcmdiefafmlaa.X
