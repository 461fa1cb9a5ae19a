/- FnRulesMoveOfAll: the law. No condition beyond the statement's. -/
import Derived.Test.YtaidpalamhmghaaDoorRuL
namespace Go.Proofs.YtaidpalamhmghaaDoor.X
open Go.Proofs
set_option maxRecDepth 100000
set_option linter.unusedVariables false
set_option linter.unusedSimpArgs false
set_option maxHeartbeats 16000000 in
theorem lawRulesMoveOfAll_spec (w : Tx) (o1 b1 l1 : Bool) (v : Tx) (m : Mv) (o2 b2 l2 : Bool) (x : Tx) (L : List Mv) (ob : Obj) (o3 b3 l3 o4 b4 l4 : Bool) (t : Tx)
    (hw : w.length ≤ 9223372036854775807) (hv : v.length ≤ 9223372036854775807) (hx : x.length ≤ 9223372036854775807) (hL : L.length ≤ 9223372036854775807) (ht : t.length ≤ 9223372036854775807) :
    Spec Tryd.prog 4 [.c (.str w), ruleV o1 b1 l1, .c (.str v), .agg (mvC m), ruleV o2 b2 l2, .c (.str x), .c (.sl 1000), ruleV o3 b3 l3, ruleV o4 b4 l4, .c (.str t)] [(1000, .ro ob 33 2 (mvE L))]
      (isRes [vb true] [(1000, .ro ob 33 2 (mvE L))]) := by
  have hnL := mvE_len L
  by_cases h : w.length ≤ 1048576 ∧ v.length ≤ 1048576 ∧ x.length ≤ 1048576 ∧ L.length ≤ 10000 ∧ t.length ≤ 1048576
  · obtain ⟨hwl, hvl, hxl, hLl, htl⟩ := h
    -- the reading of v, x, rule and t
    have q1 := implCanByRule_spec v m o2 b2 l2 hvl
    have q2 := specCanByRule_spec v m o2 b2 l2 hvl
    have q3 := implMakeByRule_spec v m o2 b2 l2 hvl
    have q4 := specMakeByRule_spec v m o2 b2 l2 hvl
    have hq : cbF v o2 b2 l2 m = true → lineOf v 10 = true := fun h => by unfold cbF at h; simp only [Bool.and_eq_true] at h; exact h.1
    have q5 := implPlayByRule_spec x L o3 b3 l3 ob hxl (by omega)
    have q6 := specPlayByRule_spec x L o3 b3 l3 ob hxl (by omega)
    have hpe : plOk x o3 b3 l3 L = true → plEnd x o3 b3 l3 L = wAt x L L.length := fun h => by unfold plEnd; rw [h, if_pos rfl]
    have hpm : plOk x o3 b3 l3 L = true → ∀ k (hk : k < L.length), _ := fun h k hk => pl_made h hk
    have q7 := implRuleText_spec o4 b4 l4
    have q8 := specRuleText_spec o4 b4 l4
    have q9 := implParse_spec (ruTx o4 b4 l4)
    rw [parse_ru] at q9
    have q10 := implParse_spec t
    have q11 := specParse_spec t
    obtain ⟨o5, b5, l5, k5, hpf⟩ := parseF_form t
    have hkt : k5 = true → ruTx o5 b5 l5 = t := fun e => by rw [e] at hpf; exact parse_text hpf
    rw [hpf] at q10 q11
    have q12 := implRuleText_spec o5 b5 l5
    have q13 : ∀ k, _ := fun k (hk : k < L.length) (hl : (wAt x L k).length ≤ 10) => implMakeByRule_spec (wAt x L k) L[k] o3 b3 l3 (by omega)
    generalize (if cbF v o2 b2 l2 m then madeF v m else []) = tv at *
    generalize cbF v o2 b2 l2 m = q at *
    generalize lineOf v 10 = lv at *
    generalize plEnd x o3 b3 l3 L = pe at *
    generalize plOk x o3 b3 l3 L = pk at *
    generalize ruTx o4 b4 l4 = t4 at *
    generalize ruTx o5 b5 l5 = t5 at *
    -- what both tell of w
    have a1 := Spec.ren [(1001, 2001)] [(2001, 1001)] (implRuleMoves_spec w o1 b1 l1 hwl) rfl rfl rfl
    have a2 := Spec.ren [(1001, 2002)] [(2002, 1001)] (specRuleMoves_spec w o1 b1 l1 hwl) rfl rfl rfl
    have hlen : ∀ o b l, (askR w o b l).length ≤ 2000000 := fun o b l => by
      unfold askR
      split
      · rename_i hl
        have h1 := ruTo_len w o b l w.length
        have h2 := (few12 hl).2
        have h3 : w.length * w.length ≤ 10 * 10 := Nat.mul_le_mul h2 h2
        have h4 : (ruL w o b l).length ≤ w.length * w.length := h1
        omega
      · simp
    have y1 := Spec.ren [(1000, 2001), (1001, 2002)] [(2001, 1000), (2002, 1001)] (yMoves_spec (askR w o1 b1 l1) (askR w o1 b1 l1) (hlen _ _ _)) rfl rfl rfl
    rw [decide_eq_true rfl] at y1
    cases hl : lineOf w 10 with
    | false =>
      rw [hl] at a1 a2
      generalize askR w o1 b1 l1 = A at *
      refine Spec.of_wpx tt_ok Tryd.func4 (by kernel_rfl) rfl ?_
      (repeat' ((conv => whnf); first | refine CondVC.t ?_ | refine CondVC.f ?_ | refine CondVC.dec (fun h => ?_) (fun h => ?_) | refine CondVC.ndec (fun h => ?_) (fun h => ?_) | refine CondVC.mk (fun h => ?_) (fun h => ?_) | refine ArVC.i64 (by first | omega | (simp only; omega)) ?_ | refine SideVC.mk (by first | omega | decide | (simp only; omega) | (simp [slS]; done) | (simp [slS]; omega) | (simp only [byteE_len, mvE_len, strE_len, intE_len, esC_len, List.length_cons, List.length_nil, List.length_append, List.length_replicate, List.length_set, Int.toNat_natCast, and_true] at *; omega)) ?_ | refine LoopN.go ?_ | exact trivial | refine AltVC.mk ?_ ?_ | refine HeldVC.mk rfl ?_ | refine CallVC.res [] rfl a1 rfl ?_ | refine CallVC.res [] rfl a2 rfl ?_ | refine CallVC.res [2001, 2002] rfl y1 rfl ?_ | refine CallVC.pure q1 rfl ?_ | refine CallVC.pure q2 rfl ?_ | refine CallVC.pure q3 rfl ?_ | refine CallVC.pure q4 rfl ?_ | refine CallVC.res [1000] rfl q5 rfl ?_ | refine CallVC.res [1000] rfl q6 rfl ?_ | refine CallVC.pure q7 rfl ?_ | refine CallVC.pure q8 rfl ?_ | refine CallVC.pure q9 rfl ?_ | refine CallVC.pure q10 rfl ?_ | refine CallVC.pure q11 rfl ?_ | refine CallVC.pure q12 rfl ?_ | refine RestVC2.neRule strRule rfl rfl rfl ?_ | refine OpVC.more tt_ok ?_ | refine RestVC.ext tt_ok ?_)); all_goals (conv => whnf)
      all_goals first
        | exact RetVC.res rfl rfl
        | (exfalso; omega)
        | (exfalso; clear q1 q2 q3 q4 q5 q6 q7 q8 q9 q10 q11 q12 q13 a1 a2 y1 hpm; simp_all; done)
        | skip
      all_goals
        have hpk : pk = true := by assumption
        refine LoopVC.mk (G := Nat) (fun k => ⟨[(379, .v (i64 k)), (378, .v (i64 L.length)), (377, .v (.c (.sl 1000))), (65, .v (.c (.str (wAt x L k)))), (17, .v (.c (.ptr 17 0))), (49, .v (.c (.str pe)))], [(17, .box 31 [.bool o3, .bool b3, .bool l3]), (1000, .ro ob 33 2 (mvE L))]⟩)
          (fun k => k ≤ L.length) (fun k => L.length - k) 0 (by omega) (Sub.mk [] _ ⟨rfl, by rw [← hnL]; rfl, rfl, by rw [wAt_zero]; rfl, rfl, rfl, trivial⟩ rfl rfl) ?_
        intro k hk
        by_cases hlt : k < L.length
        · have g1 : (mvE L)[(k : Int).toNat]? = some (mvC L[k]) := by rw [Int.toNat_natCast]; exact mvE_get hlt
          obtain ⟨f1, f2, f3⟩ := hpm hpk k hlt
          have z1 := q13 k hlt f3
          rw [f1, if_pos rfl, f2] at z1
          obtain ⟨w2, hw2⟩ : ∃ w2, w2 = wAt x L (k + 1) := ⟨_, rfl⟩
          rw [← hw2] at z1
          (repeat' ((conv => whnf); first | refine CondVC.t ?_ | refine CondVC.f ?_ | refine CondVC.dec (fun h => ?_) (fun h => ?_) | refine CondVC.ndec (fun h => ?_) (fun h => ?_) | refine CondVC.mk (fun h => ?_) (fun h => ?_) | refine ArVC.i64 (by first | omega | (simp only; omega)) ?_ | refine SideVC.mk (by first | omega | decide | (simp only; omega) | (simp [slS]; done) | (simp [slS]; omega) | (simp only [byteE_len, mvE_len, strE_len, intE_len, esC_len, List.length_cons, List.length_nil, List.length_append, List.length_replicate, List.length_set, Int.toNat_natCast, and_true] at *; omega)) ?_ | refine LoopN.go ?_ | exact trivial | refine AltVC.mk ?_ ?_ | refine HeldVC.mk rfl ?_ | refine LoadVC.mk _ g1 ?_ | refine CallVC.pure z1 rfl ?_ | refine SideVC.mk (by simp only [hnL]; omega) ?_ | refine OpVC.more tt_ok ?_ | refine RestVC.ext tt_ok ?_)); all_goals (conv => whnf)
          all_goals first
            | (exfalso; omega)
            | exact ⟨k + 1, hlt, by omega, Sub.mk [] _ ⟨rfl, rfl, rfl, by rw [← hw2]; rfl, rfl, rfl, trivial⟩ rfl rfl⟩
        · have e : k = L.length := by omega
          have e2 : wAt x L k = pe := by rw [e, hpe hpk]
          (repeat' ((conv => whnf); first | refine CondVC.t ?_ | refine CondVC.f ?_ | refine CondVC.dec (fun h => ?_) (fun h => ?_) | refine CondVC.ndec (fun h => ?_) (fun h => ?_) | refine CondVC.mk (fun h => ?_) (fun h => ?_) | refine ArVC.i64 (by first | omega | (simp only; omega)) ?_ | refine SideVC.mk (by first | omega | decide | (simp only; omega) | (simp [slS]; done) | (simp [slS]; omega) | (simp only [byteE_len, mvE_len, strE_len, intE_len, esC_len, List.length_cons, List.length_nil, List.length_append, List.length_replicate, List.length_set, Int.toNat_natCast, and_true] at *; omega)) ?_ | refine LoopN.go ?_ | exact trivial | refine AltVC.mk ?_ ?_ | refine HeldVC.mk rfl ?_ | refine OpVC.more tt_ok ?_ | refine RestVC.ext tt_ok ?_)); all_goals (conv => whnf)
          all_goals first
            | (exfalso; omega)
            | exact RetVC.res (by simp [vb, e2]) rfl
    | true =>
      have hlen10 := (few12 hl).2
      have hok := (few12 hl).1
      have hl12 : lineOf w 12 = true := by unfold lineOf at hl ⊢; simp only [Bool.and_eq_true, decide_eq_true_eq] at hl ⊢; exact ⟨by omega, hl.2⟩
      have ea : ∀ o b l, askR w o b l = ruL w o b l := fun o b l => by unfold askR; rw [hl, if_pos rfl]
      have em : askF w [84, 70] = movesF w both := by unfold askF; rw [hl12]; rfl
      have hl1 := hlen o1 b1 l1
      have hl2 := hlen true true true
      rw [ea] at hl1 hl2
      have hl3 := movesF_len w both
      have c1 := Spec.ren [(1001, 2003)] [(2003, 1001)] (implMovesOf_spec w hwl) rfl rfl rfl
      have c2 := Spec.ren [(1001, 2004)] [(2004, 1001)] (implRuleMoves_spec w true true true hwl) rfl rfl rfl
      have c3 := Spec.ren [(1001, 2005)] [(2005, 1001)] (implRuleMoves_spec w false false false hwl) rfl rfl rfl
      have y2 := Spec.ren [(1000, 2005), (1001, 2003)] [(2005, 1000), (2003, 1001)] (yMoves_spec (movesF w both) (movesF w both) (by omega)) rfl rfl rfl
      have y3 := Spec.ren [(1000, 2001)] [(2001, 1000)] (yOrder_spec (ruL w o1 b1 l1) hl1 (ru_rise w o1 b1 l1)) rfl rfl rfl
      have s1 : ∀ x, _ := fun x => Spec.ren [(1000, 2001)] [(2001, 1000)] (yIn_spec (ruL w o1 b1 l1) x hl1) rfl rfl rfl
      have s2 : ∀ x, _ := fun x => Spec.ren [(1000, 2004)] [(2004, 1000)] (yIn_spec (ruL w true true true) x hl2) rfl rfl rfl
      have f1 : ∀ m ∈ movesF w both, m ∈ ruL w o1 b1 l1 := fun m hm => ru_plain hok hm
      have f2 : ∀ m ∈ ruL w o1 b1 l1, m ∈ ruL w true true true := fun m hm => ru_every hm
      have f3 : ∀ m ∈ ruL w o1 b1 l1, cbF w o1 b1 l1 m = true := fun m hm => by unfold cbF; rw [hl, mem_ru.1 hm]; rfl
      have f4 : ∀ m ∈ ruL w o1 b1 l1, b1 = true → _ := fun m hm hb => cb_back hl hm hb
      have p1 : ∀ x, _ := fun x => implCanByRule_spec w x o1 b1 l1 hwl
      have p2 : ∀ x, _ := fun x => implMakeByRule_spec w x o1 b1 l1 hwl
      have p3 : ∀ x, _ := fun x => implMakeByRule_spec (madeF w x) (x.2, x.1) o1 b1 l1 (by rw [madeF_len]; omega)
      have p4 : ∀ x, (madeF w x).length = w.length := fun x => madeF_len w x
      rw [decide_eq_true rfl] at y2
      rw [ea] at a1 a2 y1 c2 c3
      rw [ru_none hok] at c3
      rw [em, hl12] at c1
      rw [hl] at a1 a2 c2 c3
      generalize ruL w o1 b1 l1 = A at *
      generalize ruL w true true true = B at *
      generalize movesF w both = M at *
      have hnA := mvE_len A
      have hnB := mvE_len B
      have hnM := mvE_len M
      refine Spec.of_wpx tt_ok Tryd.func4 (by kernel_rfl) rfl ?_
      (repeat' ((conv => whnf); first | refine CondVC.t ?_ | refine CondVC.f ?_ | refine CondVC.dec (fun h => ?_) (fun h => ?_) | refine CondVC.ndec (fun h => ?_) (fun h => ?_) | refine CondVC.mk (fun h => ?_) (fun h => ?_) | refine ArVC.i64 (by first | omega | (simp only; omega)) ?_ | refine SideVC.mk (by first | omega | decide | (simp only; omega) | (simp [slS]; done) | (simp [slS]; omega) | (simp only [byteE_len, mvE_len, strE_len, intE_len, esC_len, List.length_cons, List.length_nil, List.length_append, List.length_replicate, List.length_set, Int.toNat_natCast, and_true] at *; omega)) ?_ | refine LoopN.go ?_ | exact trivial | refine AltVC.mk ?_ ?_ | refine HeldVC.mk rfl ?_ | refine CallVC.res [] rfl a1 rfl ?_ | refine CallVC.res [] rfl a2 rfl ?_ | refine CallVC.res [2001, 2002] rfl y1 rfl ?_ | refine CallVC.res [] rfl c1 rfl ?_ | refine CallVC.res [] rfl c2 rfl ?_ | refine CallVC.res [] rfl c3 rfl ?_ | refine CallVC.res [2005, 2003] rfl y2 rfl ?_ | refine CallVC.res [2001] rfl y3 rfl ?_ | refine OpVC.more tt_ok ?_ | refine RestVC.ext tt_ok ?_)); all_goals (conv => whnf)
      all_goals try (exfalso; omega)
      refine LoopVC.mk (G := Nat) (fun k => ⟨[(155, .v (i64 k)), (154, .v (i64 M.length)), (153, .v (.c (.sl 2003))), (21, .v (.c (.sl 2001))), (27, .v (.c (.sl 2004))), (0, .v (.c (.str w))), (2, .v (.c (.str v))), (5, .v (.c (.str x))), (6, .v (.c (.sl 1000))), (9, .v (.c (.str t))), (11, .v (.c (.ptr 11 0))), (13, .v (.c (.ptr 13 0))), (14, .v (.c (.ptr 14 0))), (17, .v (.c (.ptr 17 0))), (18, .v (.c (.ptr 18 0)))],
          [(11, .box 31 [.bool o1, .bool b1, .bool l1]), (13, .box 33 (mvC m)), (14, .box 31 [.bool o2, .bool b2, .bool l2]), (17, .box 31 [.bool o3, .bool b3, .bool l3]), (18, .box 31 [.bool o4, .bool b4, .bool l4]), (2001, .sl 33 2 (mvE A)), (2003, .sl 33 2 (mvE M)), (2004, .sl 33 2 (mvE B)), (1000, .ro ob 33 2 (mvE L))]⟩)
        (fun k => k ≤ M.length) (fun k => M.length - k) 0 (by omega) (Sub.mk [] _ ⟨rfl, by rw [← hnM]; rfl, rfl, rfl, rfl, rfl, rfl, rfl, rfl, rfl, rfl, rfl, rfl, rfl, rfl, trivial⟩ rfl rfl) ?_
      intro k hk
      by_cases hlt : k < M.length
      · have g1 : (mvE M)[(k : Int).toNat]? = some (mvC M[k]) := by rw [Int.toNat_natCast]; exact mvE_get hlt
        have s1 := s1 M[k]
        rw [decide_eq_true (f1 _ (List.getElem_mem hlt))] at s1
        generalize M[k] = z at *
        (repeat' ((conv => whnf); first | refine CondVC.t ?_ | refine CondVC.f ?_ | refine CondVC.dec (fun h => ?_) (fun h => ?_) | refine CondVC.ndec (fun h => ?_) (fun h => ?_) | refine CondVC.mk (fun h => ?_) (fun h => ?_) | refine ArVC.i64 (by first | omega | (simp only; omega)) ?_ | refine SideVC.mk (by first | omega | decide | (simp only; omega) | (simp [slS]; done) | (simp [slS]; omega) | (simp only [byteE_len, mvE_len, strE_len, intE_len, esC_len, List.length_cons, List.length_nil, List.length_append, List.length_replicate, List.length_set, Int.toNat_natCast, and_true] at *; omega)) ?_ | refine LoopN.go ?_ | exact trivial | refine AltVC.mk ?_ ?_ | refine HeldVC.mk rfl ?_ | refine LoadVC.mk _ g1 ?_ | refine CallVC.res [2001] rfl s1 rfl ?_ | refine SideVC.mk (by simp only [hnM]; omega) ?_ | refine OpVC.more tt_ok ?_ | refine RestVC.ext tt_ok ?_)); all_goals (conv => whnf)
        all_goals first
          | (exfalso; omega)
          | exact ⟨k + 1, hlt, by omega, Sub.mk [] _ ⟨rfl, rfl, rfl, rfl, rfl, rfl, rfl, rfl, rfl, rfl, rfl, rfl, rfl, rfl, rfl, trivial⟩ rfl rfl⟩
      · (repeat' ((conv => whnf); first | refine CondVC.t ?_ | refine CondVC.f ?_ | refine CondVC.dec (fun h => ?_) (fun h => ?_) | refine CondVC.ndec (fun h => ?_) (fun h => ?_) | refine CondVC.mk (fun h => ?_) (fun h => ?_) | refine ArVC.i64 (by first | omega | (simp only; omega)) ?_ | refine SideVC.mk (by first | omega | decide | (simp only; omega) | (simp [slS]; done) | (simp [slS]; omega) | (simp only [byteE_len, mvE_len, strE_len, intE_len, esC_len, List.length_cons, List.length_nil, List.length_append, List.length_replicate, List.length_set, Int.toNat_natCast, and_true] at *; omega)) ?_ | refine LoopN.go ?_ | exact trivial | refine AltVC.mk ?_ ?_ | refine HeldVC.mk rfl ?_ | refine OpVC.more tt_ok ?_ | refine RestVC.ext tt_ok ?_)); all_goals (conv => whnf)
        all_goals try (exfalso; omega)
        clear f1 s1 c1 c2 c3 y2 y3
        refine LoopVC.mk (G := Nat) (fun k => ⟨[(166, .v (i64 k)), (165, .v (i64 A.length)), (164, .v (.c (.sl 2001))), (27, .v (.c (.sl 2004))), (0, .v (.c (.str w))), (2, .v (.c (.str v))), (5, .v (.c (.str x))), (6, .v (.c (.sl 1000))), (9, .v (.c (.str t))), (11, .v (.c (.ptr 11 0))), (13, .v (.c (.ptr 13 0))), (14, .v (.c (.ptr 14 0))), (17, .v (.c (.ptr 17 0))), (18, .v (.c (.ptr 18 0)))],
            [(11, .box 31 [.bool o1, .bool b1, .bool l1]), (13, .box 33 (mvC m)), (14, .box 31 [.bool o2, .bool b2, .bool l2]), (17, .box 31 [.bool o3, .bool b3, .bool l3]), (18, .box 31 [.bool o4, .bool b4, .bool l4]), (2001, .sl 33 2 (mvE A)), (2004, .sl 33 2 (mvE B)), (1000, .ro ob 33 2 (mvE L))]⟩)
          (fun k => k ≤ A.length) (fun k => A.length - k) 0 (by omega) (Sub.mk [] _ ⟨rfl, by rw [← hnA]; rfl, rfl, rfl, rfl, rfl, rfl, rfl, rfl, rfl, rfl, rfl, rfl, rfl, trivial⟩ rfl rfl) ?_
        intro k hk
        by_cases hlt : k < A.length
        · have g1 : (mvE A)[(k : Int).toNat]? = some (mvC A[k]) := by rw [Int.toNat_natCast]; exact mvE_get hlt
          have hm : A[k] ∈ A := List.getElem_mem hlt
          have s2 := s2 A[k]
          rw [decide_eq_true (f2 _ hm)] at s2
          have f3 := f3 _ hm
          have f4 := f4 _ hm
          have p1 := p1 A[k]
          have p2 := p2 A[k]
          have p3 := p3 A[k]
          have p4 := p4 A[k]
          rw [f3, hl] at p1
          rw [f3, if_pos rfl] at p2
          clear hm f2
          generalize A[k] = z at *
          generalize madeF w z = w2 at *
          cases hb : b1 with
          | true =>
            obtain ⟨f5, f6⟩ := f4 hb
            rw [f5, if_pos rfl, f6] at p3
            rw [hb] at p1 p2 p3
            (repeat' ((conv => whnf); first | refine CondVC.t ?_ | refine CondVC.f ?_ | refine CondVC.dec (fun h => ?_) (fun h => ?_) | refine CondVC.ndec (fun h => ?_) (fun h => ?_) | refine CondVC.mk (fun h => ?_) (fun h => ?_) | refine ArVC.i64 (by first | omega | (simp only; omega)) ?_ | refine SideVC.mk (by first | omega | decide | (simp only; omega) | (simp [slS]; done) | (simp [slS]; omega) | (simp only [byteE_len, mvE_len, strE_len, intE_len, esC_len, List.length_cons, List.length_nil, List.length_append, List.length_replicate, List.length_set, Int.toNat_natCast, and_true] at *; omega)) ?_ | refine LoopN.go ?_ | exact trivial | refine AltVC.mk ?_ ?_ | refine HeldVC.mk rfl ?_ | refine LoadVC.mk _ g1 ?_ | refine CallVC.res [2004] rfl s2 rfl ?_ | refine CallVC.pure p1 rfl ?_ | refine CallVC.pure p2 rfl ?_ | refine CallVC.pure p3 rfl ?_ | refine SideVC.mk (by simp only [hnA]; omega) ?_ | refine OpVC.more tt_ok ?_ | refine RestVC.ext tt_ok ?_)); all_goals (conv => whnf)
            all_goals first
              | (exfalso; omega)
              | exact ⟨k + 1, hlt, by omega, Sub.mk [] _ ⟨rfl, rfl, rfl, rfl, rfl, rfl, rfl, rfl, rfl, rfl, rfl, rfl, rfl, rfl, trivial⟩ rfl rfl⟩
              | (exfalso; clear q1 q2 q3 q4 q5 q6 q7 q8 q9 q10 q11 q12 q13 a1 a2 y1 hpm p1 p2 p3 s2; simp_all; done)
          | false =>
            rw [hb] at p1 p2 p3
            (repeat' ((conv => whnf); first | refine CondVC.t ?_ | refine CondVC.f ?_ | refine CondVC.dec (fun h => ?_) (fun h => ?_) | refine CondVC.ndec (fun h => ?_) (fun h => ?_) | refine CondVC.mk (fun h => ?_) (fun h => ?_) | refine ArVC.i64 (by first | omega | (simp only; omega)) ?_ | refine SideVC.mk (by first | omega | decide | (simp only; omega) | (simp [slS]; done) | (simp [slS]; omega) | (simp only [byteE_len, mvE_len, strE_len, intE_len, esC_len, List.length_cons, List.length_nil, List.length_append, List.length_replicate, List.length_set, Int.toNat_natCast, and_true] at *; omega)) ?_ | refine LoopN.go ?_ | exact trivial | refine AltVC.mk ?_ ?_ | refine HeldVC.mk rfl ?_ | refine LoadVC.mk _ g1 ?_ | refine CallVC.res [2004] rfl s2 rfl ?_ | refine CallVC.pure p1 rfl ?_ | refine CallVC.pure p2 rfl ?_ | refine CallVC.pure p3 rfl ?_ | refine SideVC.mk (by simp only [hnA]; omega) ?_ | refine OpVC.more tt_ok ?_ | refine RestVC.ext tt_ok ?_)); all_goals (conv => whnf)
            all_goals first
              | (exfalso; omega)
              | exact ⟨k + 1, hlt, by omega, Sub.mk [] _ ⟨rfl, rfl, rfl, rfl, rfl, rfl, rfl, rfl, rfl, rfl, rfl, rfl, rfl, rfl, trivial⟩ rfl rfl⟩
              | (exfalso; clear q1 q2 q3 q4 q5 q6 q7 q8 q9 q10 q11 q12 q13 a1 a2 y1 hpm p1 p2 p3 s2; simp_all; done)
        · clear f2 f3 f4 p1 p2 p3 p4 s2
          (repeat' ((conv => whnf); first | refine CondVC.t ?_ | refine CondVC.f ?_ | refine CondVC.dec (fun h => ?_) (fun h => ?_) | refine CondVC.ndec (fun h => ?_) (fun h => ?_) | refine CondVC.mk (fun h => ?_) (fun h => ?_) | refine ArVC.i64 (by first | omega | (simp only; omega)) ?_ | refine SideVC.mk (by first | omega | decide | (simp only; omega) | (simp [slS]; done) | (simp [slS]; omega) | (simp only [byteE_len, mvE_len, strE_len, intE_len, esC_len, List.length_cons, List.length_nil, List.length_append, List.length_replicate, List.length_set, Int.toNat_natCast, and_true] at *; omega)) ?_ | refine LoopN.go ?_ | exact trivial | refine AltVC.mk ?_ ?_ | refine HeldVC.mk rfl ?_ | refine CallVC.pure q1 rfl ?_ | refine CallVC.pure q2 rfl ?_ | refine CallVC.pure q3 rfl ?_ | refine CallVC.pure q4 rfl ?_ | refine CallVC.res [1000] rfl q5 rfl ?_ | refine CallVC.res [1000] rfl q6 rfl ?_ | refine CallVC.pure q7 rfl ?_ | refine CallVC.pure q8 rfl ?_ | refine CallVC.pure q9 rfl ?_ | refine CallVC.pure q10 rfl ?_ | refine CallVC.pure q11 rfl ?_ | refine CallVC.pure q12 rfl ?_ | refine RestVC2.neRule strRule rfl rfl rfl ?_ | refine OpVC.more tt_ok ?_ | refine RestVC.ext tt_ok ?_)); all_goals (conv => whnf)
          all_goals first
            | exact RetVC.res rfl rfl
            | (exfalso; omega)
            | (exfalso; clear q1 q2 q3 q4 q5 q6 q7 q8 q9 q10 q11 q12 q13 a1 a2 y1 hpm; simp_all; done)
            | skip
          all_goals
            have hpk : pk = true := by assumption
            refine LoopVC.mk (G := Nat) (fun k => ⟨[(379, .v (i64 k)), (378, .v (i64 L.length)), (377, .v (.c (.sl 1000))), (65, .v (.c (.str (wAt x L k)))), (17, .v (.c (.ptr 17 0))), (49, .v (.c (.str pe)))], [(17, .box 31 [.bool o3, .bool b3, .bool l3]), (1000, .ro ob 33 2 (mvE L))]⟩)
              (fun k => k ≤ L.length) (fun k => L.length - k) 0 (by omega) (Sub.mk [] _ ⟨rfl, by rw [← hnL]; rfl, rfl, by rw [wAt_zero]; rfl, rfl, rfl, trivial⟩ rfl rfl) ?_
            intro k hk
            by_cases hlt : k < L.length
            · have g1 : (mvE L)[(k : Int).toNat]? = some (mvC L[k]) := by rw [Int.toNat_natCast]; exact mvE_get hlt
              obtain ⟨f1, f2, f3⟩ := hpm hpk k hlt
              have z1 := q13 k hlt f3
              rw [f1, if_pos rfl, f2] at z1
              obtain ⟨w2, hw2⟩ : ∃ w2, w2 = wAt x L (k + 1) := ⟨_, rfl⟩
              rw [← hw2] at z1
              (repeat' ((conv => whnf); first | refine CondVC.t ?_ | refine CondVC.f ?_ | refine CondVC.dec (fun h => ?_) (fun h => ?_) | refine CondVC.ndec (fun h => ?_) (fun h => ?_) | refine CondVC.mk (fun h => ?_) (fun h => ?_) | refine ArVC.i64 (by first | omega | (simp only; omega)) ?_ | refine SideVC.mk (by first | omega | decide | (simp only; omega) | (simp [slS]; done) | (simp [slS]; omega) | (simp only [byteE_len, mvE_len, strE_len, intE_len, esC_len, List.length_cons, List.length_nil, List.length_append, List.length_replicate, List.length_set, Int.toNat_natCast, and_true] at *; omega)) ?_ | refine LoopN.go ?_ | exact trivial | refine AltVC.mk ?_ ?_ | refine HeldVC.mk rfl ?_ | refine LoadVC.mk _ g1 ?_ | refine CallVC.pure z1 rfl ?_ | refine SideVC.mk (by simp only [hnL]; omega) ?_ | refine OpVC.more tt_ok ?_ | refine RestVC.ext tt_ok ?_)); all_goals (conv => whnf)
              all_goals first
                | (exfalso; omega)
                | exact ⟨k + 1, hlt, by omega, Sub.mk [] _ ⟨rfl, rfl, rfl, by rw [← hw2]; rfl, rfl, rfl, trivial⟩ rfl rfl⟩
            · have e : k = L.length := by omega
              have e2 : wAt x L k = pe := by rw [e, hpe hpk]
              (repeat' ((conv => whnf); first | refine CondVC.t ?_ | refine CondVC.f ?_ | refine CondVC.dec (fun h => ?_) (fun h => ?_) | refine CondVC.ndec (fun h => ?_) (fun h => ?_) | refine CondVC.mk (fun h => ?_) (fun h => ?_) | refine ArVC.i64 (by first | omega | (simp only; omega)) ?_ | refine SideVC.mk (by first | omega | decide | (simp only; omega) | (simp [slS]; done) | (simp [slS]; omega) | (simp only [byteE_len, mvE_len, strE_len, intE_len, esC_len, List.length_cons, List.length_nil, List.length_append, List.length_replicate, List.length_set, Int.toNat_natCast, and_true] at *; omega)) ?_ | refine LoopN.go ?_ | exact trivial | refine AltVC.mk ?_ ?_ | refine HeldVC.mk rfl ?_ | refine OpVC.more tt_ok ?_ | refine RestVC.ext tt_ok ?_)); all_goals (conv => whnf)
              all_goals first
                | (exfalso; omega)
                | exact RetVC.res (by simp [vb, e2]) rfl
  · refine Spec.of_wpx tt_ok Tryd.func4 (by kernel_rfl) rfl ?_
    (repeat' ((conv => whnf); first | refine CondVC.t ?_ | refine CondVC.f ?_ | refine CondVC.dec (fun h => ?_) (fun h => ?_) | refine CondVC.ndec (fun h => ?_) (fun h => ?_) | refine CondVC.mk (fun h => ?_) (fun h => ?_) | refine ArVC.i64 (by first | omega | (simp only; omega)) ?_ | refine SideVC.mk (by first | omega | decide | (simp only; omega) | (simp [slS]; done) | (simp [slS]; omega) | (simp only [byteE_len, mvE_len, strE_len, intE_len, esC_len, List.length_cons, List.length_nil, List.length_append, List.length_replicate, List.length_set, Int.toNat_natCast, and_true] at *; omega)) ?_ | refine LoopN.go ?_ | exact trivial | refine AltVC.mk ?_ ?_ | refine HeldVC.mk rfl ?_ | refine OpVC.more tt_ok ?_ | refine RestVC.ext tt_ok ?_)); all_goals (conv => whnf)
    all_goals first | exact RetVC.res rfl rfl | (exfalso; omega)
end Go.Proofs.YtaidpalamhmghaaDoor.X
