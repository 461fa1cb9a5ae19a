/- FnMovesMadeOfAll: the law. No condition beyond the statement's. -/
import Derived.Test.YtaidpalamhmghaaDoorMmW
import Derived.Test.YtaidpalamhmghaaDoorMv2
import Derived.Test.YtaidpalamhmghaaDoorQuietB
namespace Go.Proofs.YtaidpalamhmghaaDoor.X
open Go.Proofs
set_option maxRecDepth 100000
set_option linter.unusedVariables false
set_option linter.unusedSimpArgs false
def mmkF (w : Tx) (m : Mv) : Tx := if cmF w m then madeF w m else []
theorem specIsLine_spec (w : Tx) (hw : w.length ≤ 1048576) : Spec Tryd.prog 47 [.c (.str w)] [] (isRes [vb (lineOf w 12)] []) := by
  have h1 := liGood_spec w (by omega)
  generalize lineOf w 12 = q at *
  refine Spec.of_wpx tt_ok Tryd.func47 (by kernel_rfl) rfl ?_
  (repeat' ((conv => whnf); first | refine CondVC.t ?_ | refine CondVC.f ?_ | refine CondVC.dec (fun h => ?_) (fun h => ?_) | refine CondVC.ndec (fun h => ?_) (fun h => ?_) | refine CondVC.mk (fun h => ?_) (fun h => ?_) | refine ArVC.i64 (by first | omega | (simp only; omega)) ?_ | refine SideVC.mk (by first | omega | decide | (simp only; omega) | (simp [slS]; done) | (simp [slS]; omega) | (simp only [byteE_len, mvE_len, strE_len, intE_len, esC_len, List.length_cons, List.length_nil, List.length_append, List.length_replicate, List.length_set, Int.toNat_natCast, and_true] at *; omega)) ?_ | refine LoopN.go ?_ | exact trivial | refine AltVC.mk ?_ ?_ | refine HeldVC.mk rfl ?_ | refine CallVC.pure h1 rfl ?_ | refine OpVC.more tt_ok ?_ | refine RestVC.ext tt_ok ?_)); all_goals (conv => whnf)
  all_goals exact RetVC.res rfl rfl
theorem jp_cases (v : Tx) (m : Mv) : (lineOf v 12 = false ∧ cmF v m = false ∧ jpF v m = false) ∨ (lineOf v 12 = true ∧ cmF v m = false ∧ jpF v m = false) ∨ (lineOf v 12 = true ∧ cmF v m = true ∧ jpF v m = false) ∨ (lineOf v 12 = true ∧ cmF v m = true ∧ jpF v m = true) := by
  unfold jpF cmF
  cases lineOf v 12 <;> cases canG v m <;> cases jmpF m <;> decide
/-- What the law asks of each move. -/
theorem mm_facts {w : Tx} {m : Mv} (hl : lineOf w 12 = true) (h : m ∈ movesF w both) : cmF w m = true ∧ lineOf (madeF w m) 12 = true ∧ jpF w m = jmpF m ∧ wyF w = wyF (madeF w m) + (if jmpF m then 2 else 1) ∧
    prF w 0 0 = prF (madeF w m) 0 0 + (if jmpF m then 1 else 0) ∧ decide (m ∈ movesF w [84]) = decide (m.2 > m.1) ∧ decide (m ∈ movesF w [70]) = !decide (m.2 > m.1) ∧ mirF w m ∈ movesF (turnedF w) both := by
  have hc : cmF w m = true := by unfold cmF; rw [hl, canG_mem.2 h]; rfl
  have ht := toad_iff h
  refine ⟨hc, ?_, by unfold jpF; rw [hc, Bool.true_and], made_wy h, made_pairs h, decide_eq_decide.2 ht.1, ?_, mir_mem h⟩
  · unfold lineOf at hl ⊢
    simp only [Bool.and_eq_true] at hl ⊢
    rw [madeF_len]
    exact ⟨hl.1, okCh_made hl.2 (by have := (movesF_in h).1; omega)⟩
  · rw [← decide_not]; exact decide_eq_decide.2 ht.2
set_option maxHeartbeats 4000000 in
theorem lawMovesMadeOfAll_spec (w v : Tx) (m : Mv) (hw : w.length ≤ 9223372036854775807) (hv : v.length ≤ 9223372036854775807) :
    Spec Tryd.prog 7 [.c (.str w), .c (.str v), .agg (mvC m)] [] (isRes [vb true] []) := by
  by_cases h : w.length ≤ 1048576 ∧ v.length ≤ 1048576
  · obtain ⟨hwl, hvl⟩ := h
    -- what the reading of v gives
    have r1 := implMakeMove_spec v m hvl
    have r2 := specMakeMove_spec v m hvl
    have r3 := implCanMove_spec v m hvl
    have r4 := specCanMove_spec v m hvl
    have r5 := implIsJump_spec v m hvl
    have r6 := specIsJump_spec v m hvl
    have hcb := jp_cases v m
    generalize (if cmF v m then madeF v m else []) = tv at *
    generalize cmF v m = q at *
    generalize jpF v m = j at *
    generalize lineOf v 12 = lv at *
    -- what both tell of w
    have a1 := Spec.ren [(1001, 2001)] [(2001, 1001)] (implMovesOf_spec w hwl) rfl rfl rfl
    have a2 := Spec.ren [(1001, 2002)] [(2002, 1001)] (specMovesOf_spec w hwl) rfl rfl rfl
    have a3 := Spec.ren [(1001, 2003)] [(2003, 1001)] (implToadMoves_spec w hwl) rfl rfl rfl
    have a4 := Spec.ren [(1001, 2004)] [(2004, 1001)] (specToadMoves_spec w hwl) rfl rfl rfl
    have a5 := Spec.ren [(1001, 2005)] [(2005, 1001)] (implFrogMoves_spec w hwl) rfl rfl rfl
    have a6 := Spec.ren [(1001, 2006)] [(2006, 1001)] (specFrogMoves_spec w hwl) rfl rfl rfl
    have b1 := implWayToGo_spec w hwl
    have b2 := specWayToGo_spec w hwl
    have b3 := implPairsToPass_spec w hwl
    have b4 := specPairsToPass_spec w hwl
    have b5 := implIsBlocked_spec w hwl
    have b6 := specIsBlocked_spec w hwl
    have b7 := implOtherLine_spec w hwl
    have b8 := specOtherLine_spec w hwl
    have b9 := isLine_spec w (by omega)
    have b10 := specIsLine_spec w hwl
    have y1 := Spec.ren [(1000, 2001), (1001, 2002)] [(2001, 1000), (2002, 1001)] (yMoves_spec (askF w [84, 70]) (askF w [84, 70]) (by have := askF_len w [84, 70]; omega)) rfl rfl rfl
    have y2 := Spec.ren [(1000, 2003), (1001, 2004)] [(2003, 1000), (2004, 1001)] (yMoves_spec (askF w [84]) (askF w [84]) (by have := askF_len w [84]; omega)) rfl rfl rfl
    have y3 := Spec.ren [(1000, 2005), (1001, 2006)] [(2005, 1000), (2006, 1001)] (yMoves_spec (askF w [70]) (askF w [70]) (by have := askF_len w [70]; omega)) rfl rfl rfl
    rw [decide_eq_true rfl] at y1 y2 y3
    cases hl : lineOf w 12 with
    | false =>
      rw [hl] at a1 a2 a3 a4 a5 a6 b1 b2 b3 b4 b5 b6 b7 b8 b9 b10
      generalize askF w [84, 70] = l1 at *
      generalize askF w [84] = l2 at *
      generalize askF w [70] = l3 at *
      have eb : blockF w = false := by unfold blockF; rw [hl]; rfl
      have ew : wgF w = 0 := by unfold wgF; rw [hl]; rfl
      have ep : ppF w = 0 := by unfold ppF; rw [hl]; rfl
      have eo : otherAskF w 12 = [] := by unfold otherAskF; rw [hl]; rfl
      rw [eb] at b5 b6
      rw [ew] at b1 b2
      rw [ep] at b3 b4
      rw [eo] at b7 b8
      refine Spec.of_wpx tt_ok Tryd.func7 (by kernel_rfl) rfl ?_
      rcases hcb with ⟨rfl, rfl, rfl⟩ | ⟨rfl, rfl, rfl⟩ | ⟨rfl, rfl, rfl⟩ | ⟨rfl, rfl, rfl⟩
      all_goals
        (repeat' ((conv => whnf); first | refine CondVC.t ?_ | refine CondVC.f ?_ | refine CondVC.dec (fun h => ?_) (fun h => ?_) | refine CondVC.ndec (fun h => ?_) (fun h => ?_) | refine CondVC.mk (fun h => ?_) (fun h => ?_) | refine ArVC.i64 (by first | omega | (simp only; omega)) ?_ | refine SideVC.mk (by first | omega | decide | (simp only; omega) | (simp [slS]; done) | (simp [slS]; omega) | (simp only [byteE_len, mvE_len, strE_len, intE_len, esC_len, List.length_cons, List.length_nil, List.length_append, List.length_replicate, List.length_set, Int.toNat_natCast, and_true] at *; omega)) ?_ | refine LoopN.go ?_ | exact trivial | refine AltVC.mk ?_ ?_ | refine HeldVC.mk rfl ?_ | refine CallVC.res [] rfl a1 rfl ?_ | refine CallVC.res [] rfl a2 rfl ?_ | refine CallVC.res [] rfl a3 rfl ?_ | refine CallVC.res [] rfl a4 rfl ?_ | refine CallVC.res [] rfl a5 rfl ?_ | refine CallVC.res [] rfl a6 rfl ?_ | refine CallVC.pure b1 rfl ?_ | refine CallVC.pure b2 rfl ?_ | refine CallVC.pure b3 rfl ?_ | refine CallVC.pure b4 rfl ?_ | refine CallVC.pure b5 rfl ?_ | refine CallVC.pure b6 rfl ?_ | refine CallVC.pure b7 rfl ?_ | refine CallVC.pure b8 rfl ?_ | refine CallVC.pure b9 rfl ?_ | refine CallVC.pure b10 rfl ?_ | refine CallVC.res [2001, 2002] rfl y1 rfl ?_ | refine CallVC.res [2003, 2004] rfl y2 rfl ?_ | refine CallVC.res [2005, 2006] rfl y3 rfl ?_ | refine CallVC.pure r1 rfl ?_ | refine CallVC.pure r2 rfl ?_ | refine CallVC.pure r3 rfl ?_ | refine CallVC.pure r4 rfl ?_ | refine CallVC.pure r5 rfl ?_ | refine CallVC.pure r6 rfl ?_ | refine OpVC.more tt_ok ?_ | refine RestVC.ext tt_ok ?_)); all_goals (conv => whnf)
        all_goals first | exact RetVC.res rfl rfl | (exfalso; omega) | (exfalso; simp_all; done)
    | true =>
      have hok := line_ok hl
      have hln := line_len hl
      have hlt := turned_line hl
      have hf : ∀ m ∈ movesF w both, _ := fun m hm => mm_facts hl hm
      have e1 : askF w [84, 70] = movesF w both := by unfold askF; rw [hl]; rfl
      have e2 : askF w [84] = movesF w [84] := by unfold askF; rw [hl]; rfl
      have e3 : askF w [70] = movesF w [70] := by unfold askF; rw [hl]; rfl
      have e4 : askF (turnedF w) [84, 70] = movesF (turnedF w) both := by unfold askF; rw [hlt]; rfl
      have eb : blockF w = decide ((movesF w both).length = 0) := by unfold blockF; rw [hl, Bool.true_and]
      have ew : wgF w = (wyF w : Nat) := by unfold wgF; rw [hl, if_pos rfl]
      have ew2 : wgF (turnedF w) = (wyF w : Nat) := by unfold wgF; rw [hlt, wy_turned hok, if_pos rfl]
      have ep : ppF w = (prF w 0 0 : Nat) := by unfold ppF; rw [hl, if_pos rfl]
      have eo : otherAskF w 12 = turnedF w := by unfold otherAskF; rw [hl]; rfl
      have eo2 : otherAskF (turnedF w) 12 = w := by unfold otherAskF; rw [hlt, if_pos rfl, turned_turned]
      have htl : (turnedF w).length ≤ 1048576 := by rw [turned_len]; omega
      have c1 := Spec.ren [(1001, 2007)] [(2007, 1001)] (implMovesOf_spec (turnedF w) htl) rfl rfl rfl
      have c2 := implOtherLine_spec (turnedF w) htl
      have c3 := implWayToGo_spec (turnedF w) htl
      have hwy := wy_le (by omega) hok
      have hpw : prF w 0 0 ≤ 1000 := by have := hwy; unfold wyF at this; omega
      have hsum := moves_sum w
      have hmir := mir_len w
      have hrise := moves_rise w both
      have hlen1 := movesF_len w both
      have hlen2 := movesF_len w [84]
      have hlen3 := movesF_len w [70]
      have y4 := Spec.ren [(1000, 2001)] [(2001, 1000)] (yOrder_spec (movesF w both) (by omega) hrise) rfl rfl rfl
      have s1 : ∀ x, _ := fun x => Spec.ren [(1000, 2003)] [(2003, 1000)] (yIn_spec (movesF w [84]) x (by omega)) rfl rfl rfl
      have s2 : ∀ x, _ := fun x => Spec.ren [(1000, 2005)] [(2005, 1000)] (yIn_spec (movesF w [70]) x (by omega)) rfl rfl rfl
      have s3 : ∀ x, _ := fun x => Spec.ren [(1000, 2007)] [(2007, 1000)] (yIn_spec (movesF (turnedF w) both) x (by omega)) rfl rfl rfl
      have p1 : ∀ x, _ := fun x => implCanMove_spec w x hwl
      have p2 : ∀ x, _ := fun x => implMakeMove_spec w x hwl
      have p3 : ∀ x, _ := fun x => implIsJump_spec w x hwl
      have p4 : ∀ x, _ := fun x => implWayToGo_spec (madeF w x) (by rw [madeF_len]; omega)
      have p5 : ∀ x, _ := fun x => implPairsToPass_spec (madeF w x) (by rw [madeF_len]; omega)
      have p6 : ∀ x, lineOf (madeF w x) 12 = true → wgF (madeF w x) = (wyF (madeF w x) : Nat) ∧ ppF (madeF w x) = (prF (madeF w x) 0 0 : Nat) := fun x hx => by unfold wgF ppF; rw [hx]; exact ⟨rfl, rfl⟩
      rw [hl] at a1 a2 a3 a4 a5 a6 b1 b2 b3 b4 b5 b6 b7 b8 b9 b10
      rw [e1] at a1 a2 y1
      rw [e2] at a3 a4 y2
      rw [e3] at a5 a6 y3
      rw [eb] at b5 b6
      rw [ew] at b1 b2
      rw [ep] at b3 b4
      rw [eo] at b7 b8
      rw [hlt, e4] at c1
      rw [hlt, eo2] at c2
      rw [hlt, ew2] at c3
      have hmf : mirF w = fun x => ((w.length : Int) - 1 - x.1, (w.length : Int) - 1 - x.2) := rfl
      rw [hmf] at hf
      generalize hL : movesF w both = L at *
      generalize movesF w [84] = T at *
      generalize movesF w [70] = F at *
      generalize movesF (turnedF w) both = M at *
      generalize turnedF w = u at *
      have hnL := mvE_len L
      have hnT := mvE_len T
      have hnF := mvE_len F
      have hnM := mvE_len M
      refine Spec.of_wpx tt_ok Tryd.func7 (by kernel_rfl) rfl ?_
      have hb0 : decide (L.length = 0) = decide (((mvE L).length : Int) = 0) := by rw [hnL]; exact decide_eq_decide.2 (by omega)
      rw [hb0] at b5 b6
      (repeat' ((conv => whnf); first | refine CondVC.t ?_ | refine CondVC.f ?_ | refine CondVC.dec (fun h => ?_) (fun h => ?_) | refine CondVC.ndec (fun h => ?_) (fun h => ?_) | refine CondVC.mk (fun h => ?_) (fun h => ?_) | refine ArVC.i64 (by first | omega | (simp only; omega)) ?_ | refine SideVC.mk (by first | omega | decide | (simp only; omega) | (simp [slS]; done) | (simp [slS]; omega) | (simp only [byteE_len, mvE_len, strE_len, intE_len, esC_len, List.length_cons, List.length_nil, List.length_append, List.length_replicate, List.length_set, Int.toNat_natCast, and_true] at *; omega)) ?_ | refine LoopN.go ?_ | exact trivial | refine AltVC.mk ?_ ?_ | refine HeldVC.mk rfl ?_ | refine CallVC.res [] rfl a1 rfl ?_ | refine CallVC.res [] rfl a2 rfl ?_ | refine CallVC.res [] rfl a3 rfl ?_ | refine CallVC.res [] rfl a4 rfl ?_ | refine CallVC.res [] rfl a5 rfl ?_ | refine CallVC.res [] rfl a6 rfl ?_ | refine CallVC.pure b1 rfl ?_ | refine CallVC.pure b2 rfl ?_ | refine CallVC.pure b3 rfl ?_ | refine CallVC.pure b4 rfl ?_ | refine CallVC.pure b5 rfl ?_ | refine CallVC.pure b6 rfl ?_ | refine CallVC.pure b7 rfl ?_ | refine CallVC.pure b8 rfl ?_ | refine CallVC.pure b9 rfl ?_ | refine CallVC.pure b10 rfl ?_ | refine CallVC.res [2001, 2002] rfl y1 rfl ?_ | refine CallVC.res [2003, 2004] rfl y2 rfl ?_ | refine CallVC.res [2005, 2006] rfl y3 rfl ?_ | refine CallVC.res [2001] rfl y4 rfl ?_ | refine CallVC.res [] rfl c1 rfl ?_ | refine CallVC.pure c2 rfl ?_ | refine CallVC.pure c3 rfl ?_ | refine OpVC.more tt_ok ?_ | refine RestVC.ext tt_ok ?_)); all_goals (conv => whnf)
      all_goals (try (exfalso; omega))
      all_goals (try (exfalso; simp_all; done))
      refine LoopVC.mk (G := Nat) (fun k => ⟨[(332, .v (i64 k)), (331, .v (i64 L.length)), (330, .v (.c (.sl 2001))), (0, .v (.c (.str w))), (1, .v (.c (.str v))), (5, .v (.c (.ptr 5 0))), (11, .v (.c (.sl 2003))), (15, .v (.c (.sl 2005))), (35, .v (.c (.sl 2007))), (19, .v (i64 (wyF w : Nat))), (23, .v (i64 (prF w 0 0 : Nat)))],
          [(5, .box 33 (mvC m)), (2001, .sl 33 2 (mvE L)), (2003, .sl 33 2 (mvE T)), (2005, .sl 33 2 (mvE F)), (2007, .sl 33 2 (mvE M))]⟩)
        (fun k => k ≤ L.length) (fun k => L.length - k) 0 (by omega) (Sub.mk [] _ ⟨rfl, by rw [← hnL]; rfl, rfl, rfl, rfl, rfl, rfl, rfl, rfl, rfl, rfl, trivial⟩ rfl rfl) ?_
      intro k hk
      by_cases hlt : k < L.length
      · have g1 : (mvE L)[(k : Int).toNat]? = some (mvC L[k]) := by rw [Int.toNat_natCast]; exact mvE_get hlt
        obtain ⟨f1, f2, f3, f4, f5, f6, f7, f8⟩ := hf L[k] (List.getElem_mem hlt)
        have p1 := p1 L[k]
        have p2 := p2 L[k]
        have p3 := p3 L[k]
        have p4 := p4 L[k]
        have p5 := p5 L[k]
        obtain ⟨p6, p7⟩ := p6 L[k] f2
        have s1 := s1 L[k]
        have s2 := s2 L[k]
        have s3 := s3 ((w.length : Int) - 1 - L[k].1, (w.length : Int) - 1 - L[k].2)
        rw [f1] at p1 p2 p3
        rw [hl] at p1
        rw [f3] at p3
        rw [if_pos rfl] at p2
        rw [f2, p6] at p4
        rw [f2, p7] at p5
        rw [f6] at s1
        rw [f7] at s2
        rw [decide_eq_true f8] at s3
        have hin := movesF_in (w := w) (kinds := both) (m := L[k]) (by rw [hL]; exact List.getElem_mem hlt)
        generalize L[k] = x at *
        generalize madeF w x = y at *
        generalize jmpF x = jx at *
        clear hf
        cases jx <;> by_cases hd : x.2 > x.1
        all_goals
          first | rw [decide_eq_true hd] at s1 s2 | rw [decide_eq_false hd] at s1 s2
          simp only [if_true, if_false, Bool.false_eq_true] at f4 f5
          (repeat' ((conv => whnf); first | refine CondVC.t ?_ | refine CondVC.f ?_ | refine CondVC.dec (fun h => ?_) (fun h => ?_) | refine CondVC.ndec (fun h => ?_) (fun h => ?_) | refine CondVC.mk (fun h => ?_) (fun h => ?_) | refine ArVC.i64 (by first | omega | (simp only; omega)) ?_ | refine SideVC.mk (by first | omega | decide | (simp only; omega) | (simp [slS]; done) | (simp [slS]; omega) | (simp only [byteE_len, mvE_len, strE_len, intE_len, esC_len, List.length_cons, List.length_nil, List.length_append, List.length_replicate, List.length_set, Int.toNat_natCast, and_true] at *; omega)) ?_ | refine LoopN.go ?_ | exact trivial | refine AltVC.mk ?_ ?_ | refine HeldVC.mk rfl ?_ | refine LoadVC.mk _ g1 ?_ | refine CallVC.pure p1 rfl ?_ | refine CallVC.pure p2 rfl ?_ | refine CallVC.pure p3 rfl ?_ | refine CallVC.pure p4 rfl ?_ | refine CallVC.pure p5 rfl ?_ | refine DrawVC.quietB tt_ok (by kernel_rfl) (by kernel_rfl) ?_ | refine QCallVC.mk [2003] rfl s1 rfl ?_ | refine QCallVC.mk [2005] rfl s2 rfl ?_ | refine QCallVC.mk [2007] rfl s3 rfl ?_ | refine SideVC.mk (by simp only [hnL]; omega) ?_ | refine OpVC.more tt_ok ?_ | refine RestVC.ext tt_ok ?_)); all_goals (conv => whnf)
          all_goals first
            | (exfalso; omega)
            | exact ⟨k + 1, hlt, by omega, Sub.mk [] _ ⟨rfl, rfl, rfl, rfl, rfl, rfl, rfl, rfl, rfl, rfl, rfl, trivial⟩ rfl rfl⟩
            | (exfalso; clear p1 p2 p3 p4 p5 s1 s2 s3 b1 b2 b3 b4 b5 b6 b7 b8 b9 b10 a1 a2 a3 a4 a5 a6 y1 y2 y3 y4 c1 c2 c3 r1 r2 r3 r4 r5 r6; simp [hd] at *; done)
      · rcases hcb with ⟨rfl, rfl, rfl⟩ | ⟨rfl, rfl, rfl⟩ | ⟨rfl, rfl, rfl⟩ | ⟨rfl, rfl, rfl⟩
        all_goals
          (repeat' ((conv => whnf); first | refine CondVC.t ?_ | refine CondVC.f ?_ | refine CondVC.dec (fun h => ?_) (fun h => ?_) | refine CondVC.ndec (fun h => ?_) (fun h => ?_) | refine CondVC.mk (fun h => ?_) (fun h => ?_) | refine ArVC.i64 (by first | omega | (simp only; omega)) ?_ | refine SideVC.mk (by first | omega | decide | (simp only; omega) | (simp [slS]; done) | (simp [slS]; omega) | (simp only [byteE_len, mvE_len, strE_len, intE_len, esC_len, List.length_cons, List.length_nil, List.length_append, List.length_replicate, List.length_set, Int.toNat_natCast, and_true] at *; omega)) ?_ | refine LoopN.go ?_ | exact trivial | refine AltVC.mk ?_ ?_ | refine HeldVC.mk rfl ?_ | refine CallVC.pure r1 rfl ?_ | refine CallVC.pure r2 rfl ?_ | refine CallVC.pure r3 rfl ?_ | refine CallVC.pure r4 rfl ?_ | refine CallVC.pure r5 rfl ?_ | refine CallVC.pure r6 rfl ?_ | refine OpVC.more tt_ok ?_ | refine RestVC.ext tt_ok ?_)); all_goals (conv => whnf)
          all_goals first | exact RetVC.res rfl rfl | (exfalso; omega) | (exfalso; simp_all; done)
  · refine Spec.of_wpx tt_ok Tryd.func7 (by kernel_rfl) rfl ?_
    (repeat' ((conv => whnf); first | refine CondVC.t ?_ | refine CondVC.f ?_ | refine CondVC.dec (fun h => ?_) (fun h => ?_) | refine CondVC.ndec (fun h => ?_) (fun h => ?_) | refine CondVC.mk (fun h => ?_) (fun h => ?_) | refine ArVC.i64 (by first | omega | (simp only; omega)) ?_ | refine SideVC.mk (by first | omega | decide | (simp only; omega) | (simp [slS]; done) | (simp [slS]; omega) | (simp only [byteE_len, mvE_len, strE_len, intE_len, esC_len, List.length_cons, List.length_nil, List.length_append, List.length_replicate, List.length_set, Int.toNat_natCast, and_true] at *; omega)) ?_ | refine LoopN.go ?_ | exact trivial | refine AltVC.mk ?_ ?_ | refine HeldVC.mk rfl ?_ | refine OpVC.more tt_ok ?_ | refine RestVC.ext tt_ok ?_)); all_goals (conv => whnf)
    all_goals first | exact RetVC.res rfl rfl | (exfalso; omega)
end Go.Proofs.YtaidpalamhmghaaDoor.X
