/- FnExactFirstPlay: both functions and the law. No condition beyond the statement's. -/
import Derived.Test.YtblihaicbhdbdaaDoorBndK
import Derived.Test.YtblihaicbhdbdaaDoorBetween
import Derived.Test.YtblihaicbhdbdaaDoorWays
import Derived.Test.YtblihaicbhdbdaaDoorMove
namespace Go.Proofs.YtblihaicbhdbdaaDoor.X
open Go.Proofs
set_option maxRecDepth 100000
set_option linter.unusedVariables false
set_option linter.unusedSimpArgs false
theorem plays_after {u v : Tx} : 0 < playsF v u ↔ 0 ≤ afterF u v := by
  rcases after_cases u v with ⟨k, hk, he⟩ | ⟨hn, he⟩
  · have hm := lay_mem.2 hk
    rw [plays_at hm, he]
    exact ⟨fun _ => by omega, fun _ => List.count_pos_iff.2 (endsF_mem.2 hm)⟩
  · rw [plays_none (fun k hk => hn k (lay_mem.1 hk)), he]
    omega
theorem wp_after {u v : Tx} (hok : u.all okCh = true) (hl : u.length ≤ 10) : decide (wp v u = 0) = !decide (0 ≤ afterF u v) := by
  have h1 := playsF_few10 v hok hl
  have h2 : wp v u = (playsF v u : Nat) := wrap_id (by omega)
  rw [h2]
  have h3 := plays_after (u := u) (v := v)
  by_cases h : 0 ≤ afterF u v
  · rw [decide_eq_true h]; have := h3.2 h; simp; omega
  · rw [decide_eq_false h]
    have : ¬ 0 < playsF v u := fun x => h (h3.1 x)
    simp; omega
theorem pick_one {l : List Mv} {p : Mv → Bool} {k : Nat} (hk : k < l.length) (h : p l[k] = true) (h0 : ∀ j (hj : j < l.length), j < k → p l[j] = false) : pickF false (l.filter p) = some l[k] := by
  unfold pickF
  simp only [Bool.false_eq_true, if_false]
  have e : l = l.take k ++ l[k] :: l.drop (k + 1) := by rw [List.getElem_cons_drop, List.take_append_drop]
  have e2 : (l.take k).filter p = [] := by
    rw [List.filter_eq_nil_iff]
    intro m hm
    obtain ⟨j, hj, rfl⟩ := List.getElem_of_mem hm
    rw [List.length_take] at hj
    rw [List.getElem_take, h0 j (by omega) (by omega)]
    simp
  conv => lhs; rw [e]
  rw [List.filter_append, e2, List.filter_cons, h]
  rfl
theorem live_after {v w : Tx} (hok : w.all okCh = true) (hl : w.length ≤ 10) : liveF v w = (movesF w both).filter fun m => decide (0 ≤ afterF (madeF w m) v) := by
  unfold liveF
  refine List.filter_congr fun m hm => ?_
  have hin := movesF_in hm
  rw [wp_after (okCh_made hok (m := m) (by have := hin.1; omega)) (by rw [madeF_len]; exact hl), Bool.not_not]
theorem live_more {v w : Tx} (hok : w.all okCh = true) (hl : w.length ≤ 10) (hne : w ≠ v) (ha : 0 ≤ afterF w v) : ∃ m r, liveF v w = m :: r ∧ m ∈ movesF w both ∧ 0 ≤ afterF (madeF w m) v ∧ pickF false (liveF v w) = some m := by
  obtain ⟨m, hm, hp⟩ := (playsF_pos hne).1 (plays_after.2 ha)
  have hmem : m ∈ liveF v w := by
    rw [live_after hok hl, List.mem_filter]
    exact ⟨hm, decide_eq_true (plays_after.1 hp)⟩
  cases hlv : liveF v w with
  | nil => rw [hlv] at hmem; cases hmem
  | cons a r =>
    have ha2 : a ∈ liveF v w := by rw [hlv]; exact List.mem_cons_self
    rw [live_after hok hl, List.mem_filter] at ha2
    exact ⟨a, r, rfl, ha2.1, of_decide_eq_true ha2.2, rfl⟩
def fpF (w v : Tx) : List Mv := if isBetF w v then exchF false v w else []
theorem bet_facts {w v : Tx} (h : isBetF w v = true) : (w.all okCh = true ∧ w.length ≤ 10) ∧ 0 ≤ afterF w v := by
  unfold isBetF bothF at h
  simp only [Bool.and_eq_true, decide_eq_true_eq] at h
  exact ⟨few_ok h.1.1, h.2⟩
theorem way_few {w : Tx} (hl : w.length ≤ 10) : (exchF false w w).length = 0 := by rw [exchF_self]; rfl
set_option maxHeartbeats 1000000 in
theorem implFirstPlay_spec (w v : Tx) (hw : w.length ≤ 1048576) (hv : v.length ≤ 1048576) (hx : isBetF w v = true → (exchF false v w).length ≤ 1000000) : Spec Tryd.prog 15 [.c (.str w), .c (.str v)] []
    (isRes [.c (.sl 1001), vb (isBetF w v)] [(1001, .sl 45 2 (mvE (fpF w v)))]) := by
  have h1 := implCanReach_spec w v hw hv
  unfold fpF
  cases hb : isBetF w v with
  | false =>
    rw [hb] at h1
    rw [if_neg Bool.false_ne_true]
    refine Spec.of_wpx tt_ok Tryd.func15 (by kernel_rfl) rfl ?_
    (repeat' ((conv => whnf); first | refine CondVC.t ?_ | refine CondVC.f ?_ | refine CondVC.dec (fun h => ?_) (fun h => ?_) | refine CondVC.ndec (fun h => ?_) (fun h => ?_) | refine CondVC.mk (fun h => ?_) (fun h => ?_) | refine ArVC.i64 (by first | omega | (simp only; omega)) ?_ | refine SideVC.mk (by first | omega | decide | (simp only; omega) | (simp [slS]; done) | (simp [slS]; omega) | (simp only [byteE_len, mvE_len, strE_len, intE_len, esC_len, List.length_cons, List.length_nil, List.length_append, List.length_replicate, List.length_set, Int.toNat_natCast, and_true] at *; omega)) ?_ | refine LoopN.go ?_ | exact trivial | refine AltVC.mk ?_ ?_ | refine HeldVC.mk rfl ?_ | refine CallVC.pure h1 rfl ?_ | refine OpVC.more tt_ok ?_ | refine RestVC.ext tt_ok ?_)); all_goals (conv => whnf)
    all_goals first | exact RetVC.nil 1001 45 2 [.c (.sl 1001), vb false] [] rfl rfl rfl (RetVC.res rfl rfl) | (exfalso; simp_all; done)
  | true =>
    rw [hb] at h1
    rw [if_pos rfl]
    obtain ⟨⟨hok, hl⟩, ha⟩ := bet_facts hb
    have hto := Spec.ren [(1000, 2000)] [(2000, 1000)] (to_spec v) rfl rfl rfl
    have hes0 := okWays_one v
    generalize setM [] (.str v) (i64 1) = es0 at *
    obtain ⟨X, hX⟩ : ∃ X, X = exchF false v w := ⟨_, rfl⟩
    have hx := hx hb
    rw [← hX] at hx ⊢
    refine Spec.of_wpx tt_ok Tryd.func15 (by kernel_rfl) rfl ?_
    (repeat' ((conv => whnf); first | refine CondVC.t ?_ | refine CondVC.f ?_ | refine CondVC.dec (fun h => ?_) (fun h => ?_) | refine CondVC.ndec (fun h => ?_) (fun h => ?_) | refine CondVC.mk (fun h => ?_) (fun h => ?_) | refine ArVC.i64 (by first | omega | (simp only; omega)) ?_ | refine SideVC.mk (by first | omega | decide | (simp only; omega) | (simp [slS]; done) | (simp [slS]; omega) | (simp only [byteE_len, mvE_len, strE_len, intE_len, esC_len, List.length_cons, List.length_nil, List.length_append, List.length_replicate, List.length_set, Int.toNat_natCast, and_true] at *; omega)) ?_ | refine LoopN.go ?_ | exact trivial | refine AltVC.mk ?_ ?_ | refine HeldVC.mk rfl ?_ | refine CallVC.pure h1 rfl ?_ | refine CallVC.res [] rfl hto rfl ?_ | refine OpVC.more tt_ok ?_ | refine RestVC.ext tt_ok ?_)); all_goals (conv => whnf)
    all_goals try (exfalso; simp_all; done)
    refine LoopVC.mk (G := Tx × List Mv × List (C × V)) (fun γ => ⟨[(9, .v (.c (.sl 3001))), (8, .v (.c (.ptr 8 0))), (1, .v (.c (.str v))), (0, .v (.c (.str γ.1)))],
        [(8, .box 52 [.str v, .mp 2000]), (3001, .sl 45 2 (mvE γ.2.1)), (2000, .ext (.mp none γ.2.2))]⟩)
      (fun γ => (γ.1.all okCh = true ∧ γ.1.length ≤ 10) ∧ 0 ≤ afterF γ.1 v ∧ γ.2.1 ++ exchF false v γ.1 = X ∧ okWays v γ.2.2) (fun γ => wayF γ.1) (w, [], es0) ⟨⟨hok, hl⟩, ha, by rw [hX]; rfl, hes0⟩
      (Sub.mk [(3001, 21)] _ ⟨rfl, rfl, rfl, rfl, trivial⟩ rfl rfl) ?_
    rintro ⟨u, o, es⟩ ⟨⟨uok, ul⟩, ua, hX', hes⟩
    simp only at uok ul ua hX' hes
    have hol : o.length ≤ 1000000 := by rw [← hX', List.length_append] at hx; omega
    have hoe := mvE_len o
    by_cases huv : u = v
    · subst huv
      rw [exchF_self, List.append_nil] at hX'
      subst hX'
      (repeat' ((conv => whnf); first | refine CondVC.t ?_ | refine CondVC.f ?_ | refine CondVC.dec (fun h => ?_) (fun h => ?_) | refine CondVC.ndec (fun h => ?_) (fun h => ?_) | refine CondVC.mk (fun h => ?_) (fun h => ?_) | refine ArVC.i64 (by first | omega | (simp only; omega)) ?_ | refine SideVC.mk (by first | omega | decide | (simp only; omega) | (simp [slS]; done) | (simp [slS]; omega) | (simp only [byteE_len, mvE_len, strE_len, intE_len, esC_len, List.length_cons, List.length_nil, List.length_append, List.length_replicate, List.length_set, Int.toNat_natCast, and_true] at *; omega)) ?_ | refine LoopN.go ?_ | exact trivial | refine AltVC.mk ?_ ?_ | refine HeldVC.mk rfl ?_ | refine OpVC.more tt_ok ?_ | refine RestVC.ext tt_ok ?_)); all_goals (conv => whnf)
      all_goals first
        | exact RetVC.ren [(1001, 3001)] [.c (.sl 1001), vb true] [(1001, .sl 45 2 (mvE o))] rfl rfl rfl ⟨rfl, rfl⟩
        | (exfalso; simp_all; done)
    · obtain ⟨m, r, hlv, hm, hma, hpk⟩ := live_more uok ul huv ua
      have hlive := Spec.renE [(1000, 2000), (1011, 2011)] [(2000, 1000), (2011, 1011)] (live_spec v u (by omega) es hes) (fun _ => rfl) (fun _ => rfl) rfl
      rw [hlv] at hlive
      have hin := movesF_in hm
      have hmk := made_spec u m hin.1 hin.2.1 (by omega)
      have hstep := exchF_step huv hpk
      have hwm := way_made hm
      have hok2 := okCh_made uok (m := m) (by have := hin.1; omega)
      have hlen2 : (madeF u m).length ≤ 10 := by rw [madeF_len]; exact ul
      rw [hstep, show m :: exchF false v (madeF u m) = [m] ++ exchF false v (madeF u m) from rfl, ← List.append_assoc] at hX'
      have hrow : mvE (o ++ [m]) = mvE o ++ [mvC m] := mvE_append o [m]
      have hml := mvE_len (m :: r)
      have g0 : (mvE (m :: r))[(0 : Int).toNat]? = some (mvC m) := rfl
      generalize madeF u m = u2 at *
      generalize mvE (m :: r) = R at *
      (repeat' ((conv => whnf); first | refine CondVC.t ?_ | refine CondVC.f ?_ | refine CondVC.dec (fun h => ?_) (fun h => ?_) | refine CondVC.ndec (fun h => ?_) (fun h => ?_) | refine CondVC.mk (fun h => ?_) (fun h => ?_) | refine ArVC.i64 (by first | omega | (simp only; omega)) ?_ | refine SideVC.mk (by first | omega | decide | (simp only; omega) | (simp [slS]; done) | (simp [slS]; omega) | (simp only [byteE_len, mvE_len, strE_len, intE_len, esC_len, List.length_cons, List.length_nil, List.length_append, List.length_replicate, List.length_set, Int.toNat_natCast, and_true] at *; omega)) ?_ | refine LoopN.go ?_ | exact trivial | refine AltVC.mk ?_ ?_ | refine HeldVC.mk rfl ?_ | (refine CallVC.ex [2000] rfl hlive ?_; intro es2 hes2; refine ⟨rfl, ?_⟩) | refine LoadVC.mk _ g0 ?_ | refine CallVC.pure hmk rfl ?_ | refine SideVC.mk (by rw [hml, List.length_cons]; omega) ?_ | refine SideVC.mk (by simp only [hoe, List.length_append, List.length_cons, List.length_nil]; omega) ?_ | refine OpVC.more tt_ok ?_ | refine RestVC.ext tt_ok ?_)); all_goals (conv => whnf)
      all_goals first
        | exact ⟨(u2, o ++ [m], es2), ⟨⟨hok2, hlen2⟩, hma, hX', hes2⟩, hwm, Sub.mk [(3001, 33)] _ ⟨rfl, rfl, rfl, rfl, trivial⟩ (by simp only [hrow]; rfl) rfl⟩
        | (exfalso; simp_all; done)
set_option maxHeartbeats 1000000 in
theorem specFirstPlay_spec (w v : Tx) (hw : w.length ≤ 1048576) (hv : v.length ≤ 1048576) (hx : isBetF w v = true → (exchF false v w).length ≤ 1000000) : Spec Tryd.prog 14 [.c (.str w), .c (.str v)] []
    (isRes [.c (.sl 1001), vb (isBetF w v)] [(1001, .sl 45 2 (mvE (fpF w v)))]) := by
  have h1 := reFew_spec w hw
  have h2 := reFew_spec v hv
  unfold fpF
  cases hb : isBetF w v with
  | false =>
    rw [if_neg Bool.false_ne_true]
    unfold isBetF bothF at hb
    cases ha : lineOf w 10 with
    | false =>
      rw [ha] at h1
      refine Spec.of_wpx tt_ok Tryd.func14 (by kernel_rfl) rfl ?_
      (repeat' ((conv => whnf); first | refine CondVC.t ?_ | refine CondVC.f ?_ | refine CondVC.dec (fun h => ?_) (fun h => ?_) | refine CondVC.ndec (fun h => ?_) (fun h => ?_) | refine CondVC.mk (fun h => ?_) (fun h => ?_) | refine ArVC.i64 (by first | omega | (simp only; omega)) ?_ | refine SideVC.mk (by first | omega | decide | (simp only; omega) | (simp [slS]; done) | (simp [slS]; omega) | (simp only [byteE_len, mvE_len, strE_len, intE_len, esC_len, List.length_cons, List.length_nil, List.length_append, List.length_replicate, List.length_set, Int.toNat_natCast, and_true] at *; omega)) ?_ | refine LoopN.go ?_ | exact trivial | refine AltVC.mk ?_ ?_ | refine HeldVC.mk rfl ?_ | refine CallVC.pure h1 rfl ?_ | refine OpVC.more tt_ok ?_ | refine RestVC.ext tt_ok ?_)); all_goals (conv => whnf)
      all_goals first | exact RetVC.nil 1001 45 2 [.c (.sl 1001), vb false] [] rfl rfl rfl (RetVC.res rfl rfl) | (exfalso; simp_all; done)
    | true =>
      rw [ha] at h1
      cases hbv : lineOf v 10 with
      | false =>
        rw [hbv] at h2
        refine Spec.of_wpx tt_ok Tryd.func14 (by kernel_rfl) rfl ?_
        (repeat' ((conv => whnf); first | refine CondVC.t ?_ | refine CondVC.f ?_ | refine CondVC.dec (fun h => ?_) (fun h => ?_) | refine CondVC.ndec (fun h => ?_) (fun h => ?_) | refine CondVC.mk (fun h => ?_) (fun h => ?_) | refine ArVC.i64 (by first | omega | (simp only; omega)) ?_ | refine SideVC.mk (by first | omega | decide | (simp only; omega) | (simp [slS]; done) | (simp [slS]; omega) | (simp only [byteE_len, mvE_len, strE_len, intE_len, esC_len, List.length_cons, List.length_nil, List.length_append, List.length_replicate, List.length_set, Int.toNat_natCast, and_true] at *; omega)) ?_ | refine LoopN.go ?_ | exact trivial | refine AltVC.mk ?_ ?_ | refine HeldVC.mk rfl ?_ | refine CallVC.pure h1 rfl ?_ | refine CallVC.pure h2 rfl ?_ | refine OpVC.more tt_ok ?_ | refine RestVC.ext tt_ok ?_)); all_goals (conv => whnf)
        all_goals first | exact RetVC.nil 1001 45 2 [.c (.sl 1001), vb false] [] rfl rfl rfl (RetVC.res rfl rfl) | (exfalso; simp_all; done)
      | true =>
        rw [hbv] at h2
        rw [ha, hbv] at hb
        have h3 := reAfter_spec w v (few_ok ha).1 (by have := (few_ok ha).2; omega)
        have hneg : ¬ 0 ≤ afterF w v := by simpa using hb
        generalize afterF w v = q at *
        refine Spec.of_wpx tt_ok Tryd.func14 (by kernel_rfl) rfl ?_
        (repeat' ((conv => whnf); first | refine CondVC.t ?_ | refine CondVC.f ?_ | refine CondVC.dec (fun h => ?_) (fun h => ?_) | refine CondVC.ndec (fun h => ?_) (fun h => ?_) | refine CondVC.mk (fun h => ?_) (fun h => ?_) | refine ArVC.i64 (by first | omega | (simp only; omega)) ?_ | refine SideVC.mk (by first | omega | decide | (simp only; omega) | (simp [slS]; done) | (simp [slS]; omega) | (simp only [byteE_len, mvE_len, strE_len, intE_len, esC_len, List.length_cons, List.length_nil, List.length_append, List.length_replicate, List.length_set, Int.toNat_natCast, and_true] at *; omega)) ?_ | refine LoopN.go ?_ | exact trivial | refine AltVC.mk ?_ ?_ | refine HeldVC.mk rfl ?_ | refine CallVC.pure h1 rfl ?_ | refine CallVC.pure h2 rfl ?_ | refine CallVC.pure h3 rfl ?_ | refine OpVC.more tt_ok ?_ | refine RestVC.ext tt_ok ?_)); all_goals (conv => whnf)
        all_goals first | exact RetVC.nil 1001 45 2 [.c (.sl 1001), vb false] [] rfl rfl rfl (RetVC.res rfl rfl) | (exfalso; omega) | (exfalso; simp_all; done)
  | true =>
    rw [if_pos rfl]
    obtain ⟨⟨hok, hl⟩, ha⟩ := bet_facts hb
    have hx := hx hb
    unfold isBetF bothF at hb
    simp only [Bool.and_eq_true] at hb
    rw [hb.1.1] at h1
    rw [hb.1.2] at h2
    have h3 := reAfter_spec w v hok (by omega)
    obtain ⟨X, hX⟩ : ∃ X, X = exchF false v w := ⟨_, rfl⟩
    rw [← hX] at hx ⊢
    refine Spec.of_wpx tt_ok Tryd.func14 (by kernel_rfl) rfl ?_
    (repeat' ((conv => whnf); first | refine CondVC.t ?_ | refine CondVC.f ?_ | refine CondVC.dec (fun h => ?_) (fun h => ?_) | refine CondVC.ndec (fun h => ?_) (fun h => ?_) | refine CondVC.mk (fun h => ?_) (fun h => ?_) | refine ArVC.i64 (by first | omega | (simp only; omega)) ?_ | refine SideVC.mk (by first | omega | decide | (simp only; omega) | (simp [slS]; done) | (simp [slS]; omega) | (simp only [byteE_len, mvE_len, strE_len, intE_len, esC_len, List.length_cons, List.length_nil, List.length_append, List.length_replicate, List.length_set, Int.toNat_natCast, and_true] at *; omega)) ?_ | refine LoopN.go ?_ | exact trivial | refine AltVC.mk ?_ ?_ | refine HeldVC.mk rfl ?_ | refine CallVC.pure h1 rfl ?_ | refine CallVC.pure h2 rfl ?_ | refine CallVC.pure h3 rfl ?_ | refine OpVC.more tt_ok ?_ | refine RestVC.ext tt_ok ?_)); all_goals (conv => whnf)
    all_goals try (exfalso; omega)
    all_goals try (exfalso; simp_all; done)
    refine LoopVC.mk (G := Tx × List Mv) (fun γ => ⟨[(6, .v (.c (.sl 3001))), (1, .v (.c (.str v))), (0, .v (.c (.str γ.1)))], [(3001, .sl 45 2 (mvE γ.2))]⟩)
      (fun γ => (γ.1.all okCh = true ∧ γ.1.length ≤ 10) ∧ 0 ≤ afterF γ.1 v ∧ γ.2 ++ exchF false v γ.1 = X) (fun γ => wayF γ.1) (w, []) ⟨⟨hok, hl⟩, ha, by rw [hX]; rfl⟩
      (Sub.nil 3001 45 2 ⟨rfl, rfl, rfl, trivial⟩ rfl rfl) ?_
    rintro ⟨u, o⟩ ⟨⟨uok, ul⟩, ua, hX'⟩
    simp only at uok ul ua hX'
    have hol : o.length ≤ 1000000 := by rw [← hX', List.length_append] at hx; omega
    have hoe := mvE_len o
    by_cases huv : u = v
    · subst huv
      rw [exchF_self, List.append_nil] at hX'
      subst hX'
      (repeat' ((conv => whnf); first | refine CondVC.t ?_ | refine CondVC.f ?_ | refine CondVC.dec (fun h => ?_) (fun h => ?_) | refine CondVC.ndec (fun h => ?_) (fun h => ?_) | refine CondVC.mk (fun h => ?_) (fun h => ?_) | refine ArVC.i64 (by first | omega | (simp only; omega)) ?_ | refine SideVC.mk (by first | omega | decide | (simp only; omega) | (simp [slS]; done) | (simp [slS]; omega) | (simp only [byteE_len, mvE_len, strE_len, intE_len, esC_len, List.length_cons, List.length_nil, List.length_append, List.length_replicate, List.length_set, Int.toNat_natCast, and_true] at *; omega)) ?_ | refine LoopN.go ?_ | exact trivial | refine AltVC.mk ?_ ?_ | refine HeldVC.mk rfl ?_ | refine OpVC.more tt_ok ?_ | refine RestVC.ext tt_ok ?_)); all_goals (conv => whnf)
      all_goals first
        | exact RetVC.ren [(1001, 3001)] [.c (.sl 1001), vb true] [(1001, .sl 45 2 (mvE o))] rfl rfl rfl ⟨rfl, rfl⟩
        | (exfalso; simp_all; done)
    · obtain ⟨m0, r0, hlv, hm0, hma0, hpk0⟩ := live_more uok ul huv ua
      have hmv := Spec.ren [(1001, 2001)] [(2001, 1001)] (liMoves_spec u true true uok (by omega)) rfl rfl rfl
      rw [liMoves_eq uok, show kindsF true true = both from rfl] at hmv
      have hlf := live_after (v := v) uok ul
      have hin : ∀ m ∈ movesF u both, _ := fun m hm => movesF_in hm
      have hmk : ∀ m ∈ movesF u both, _ := fun m hm => liMake_spec u m (hin m hm).1 (hin m hm).2.1 (hin m hm).2.2 (by omega)
      have hwm : ∀ m ∈ movesF u both, wayF (madeF u m) < wayF u := fun m hm => way_made hm
      have hok2 : ∀ m ∈ movesF u both, (madeF u m).all okCh = true := fun m hm => okCh_made uok (m := m) (by have := (hin m hm).1; omega)
      have hlen2 : ∀ m, (madeF u m).length ≤ 10 := fun m => by rw [madeF_len]; exact ul
      have haf : ∀ m ∈ movesF u both, _ := fun m hm => reAfter_spec (madeF u m) v (hok2 m hm) (by have := hlen2 m; omega)
      have hstep : ∀ m, pickF false (liveF v u) = some m → _ := fun m h => exchF_step huv h
      rw [hlf] at hstep
      have hll : (movesF u both).length ≤ 10 := Nat.le_trans (movesF_len u both) ul
      generalize movesF u both = l at *
      have hml := mvE_len l
      (repeat' ((conv => whnf); first | refine CondVC.t ?_ | refine CondVC.f ?_ | refine CondVC.dec (fun h => ?_) (fun h => ?_) | refine CondVC.ndec (fun h => ?_) (fun h => ?_) | refine CondVC.mk (fun h => ?_) (fun h => ?_) | refine ArVC.i64 (by first | omega | (simp only; omega)) ?_ | refine SideVC.mk (by first | omega | decide | (simp only; omega) | (simp [slS]; done) | (simp [slS]; omega) | (simp only [byteE_len, mvE_len, strE_len, intE_len, esC_len, List.length_cons, List.length_nil, List.length_append, List.length_replicate, List.length_set, Int.toNat_natCast, and_true] at *; omega)) ?_ | refine LoopN.go ?_ | exact trivial | refine AltVC.mk ?_ ?_ | refine HeldVC.mk rfl ?_ | refine CallVC.res [] rfl hmv rfl ?_ | refine OpVC.more tt_ok ?_ | refine RestVC.ext tt_ok ?_)); all_goals (conv => whnf)
      all_goals try (exfalso; simp_all; done)
      refine LoopVC.mk (G := Nat) (fun k => ⟨[(30, .v (i64 k)), (29, .v (i64 (l.length : Nat))), (28, .v (.c (.sl 2001))), (6, .v (.c (.sl 3001))), (1, .v (.c (.str v))), (0, .v (.c (.str u)))], [(2001, .sl 45 2 (mvE l)), (3001, .sl 45 2 (mvE o))]⟩)
        (fun k => k ≤ l.length ∧ ∀ j (hj : j < l.length), j < k → ¬ 0 ≤ afterF (madeF u l[j]) v) (fun k => l.length - k) 0 ⟨Nat.zero_le _, fun j hj h => absurd h (Nat.not_lt_zero _)⟩
        (Sub.mk [] _ ⟨rfl, by rw [← hml]; rfl, rfl, rfl, rfl, rfl, trivial⟩ rfl rfl) ?_
      intro k ⟨hk, hkn⟩
      by_cases hkl : k < l.length
      · have hmem := List.getElem_mem hkl
        have gk : (mvE l)[(k : Int).toNat]? = some (mvC l[k]) := by rw [Int.toNat_natCast]; exact mvE_get hkl
        have c1 := hmk _ hmem
        have c2 := haf _ hmem
        have q1 := hwm _ hmem
        have q2 := hok2 _ hmem
        have q3 := hlen2 l[k]
        by_cases hhit : 0 ≤ afterF (madeF u l[k]) v
        · have hst := hstep l[k] (pick_one hkl (decide_eq_true hhit) fun j hj hjk => decide_eq_false (hkn j hj hjk))
          rw [hst, show l[k] :: exchF false v (madeF u l[k]) = [l[k]] ++ exchF false v (madeF u l[k]) from rfl, ← List.append_assoc] at hX'
          have hrow : mvE (o ++ [l[k]]) = mvE o ++ [mvC l[k]] := mvE_append o [l[k]]
          generalize l[k] = m at *
          generalize madeF u m = u2 at *
          generalize hq : afterF u2 v = q at *
          (repeat' ((conv => whnf); first | refine CondVC.t ?_ | refine CondVC.f ?_ | refine CondVC.dec (fun h => ?_) (fun h => ?_) | refine CondVC.ndec (fun h => ?_) (fun h => ?_) | refine CondVC.mk (fun h => ?_) (fun h => ?_) | refine ArVC.i64 (by first | omega | (simp only; omega)) ?_ | refine SideVC.mk (by first | omega | decide | (simp only; omega) | (simp [slS]; done) | (simp [slS]; omega) | (simp only [byteE_len, mvE_len, strE_len, intE_len, esC_len, List.length_cons, List.length_nil, List.length_append, List.length_replicate, List.length_set, Int.toNat_natCast, and_true] at *; omega)) ?_ | refine LoopN.go ?_ | exact trivial | refine AltVC.mk ?_ ?_ | refine HeldVC.mk rfl ?_ | refine LoadVC.mk _ gk ?_ | refine CallVC.pure c1 rfl ?_ | refine CallVC.pure c2 rfl ?_ | refine SideVC.mk (by rw [hml]; omega) ?_ | refine SideVC.mk (by simp only [hoe, List.length_cons, List.length_nil]; omega) ?_ | refine OpVC.more tt_ok ?_ | refine RestVC.ext tt_ok ?_)); all_goals (conv => whnf)
          all_goals first
            | (exfalso; omega)
            | exact ⟨(u2, o ++ [m]), ⟨⟨q2, q3⟩, by simp only; rw [hq]; exact hhit, hX'⟩, q1, Sub.mk [(3001, 44)] _ ⟨rfl, rfl, rfl, trivial⟩ (by simp only [hrow]; rfl) rfl⟩
        · have hnx : k + 1 ≤ l.length ∧ ∀ j (hj : j < l.length), j < k + 1 → ¬ 0 ≤ afterF (madeF u l[j]) v := ⟨hkl, fun j hj hjk => by
            by_cases e : j = k
            · subst e; exact hhit
            · exact hkn j hj (by omega)⟩
          generalize l[k] = m at *
          generalize madeF u m = u2 at *
          generalize hq : afterF u2 v = q at *
          (repeat' ((conv => whnf); first | refine CondVC.t ?_ | refine CondVC.f ?_ | refine CondVC.dec (fun h => ?_) (fun h => ?_) | refine CondVC.ndec (fun h => ?_) (fun h => ?_) | refine CondVC.mk (fun h => ?_) (fun h => ?_) | refine ArVC.i64 (by first | omega | (simp only; omega)) ?_ | refine SideVC.mk (by first | omega | decide | (simp only; omega) | (simp [slS]; done) | (simp [slS]; omega) | (simp only [byteE_len, mvE_len, strE_len, intE_len, esC_len, List.length_cons, List.length_nil, List.length_append, List.length_replicate, List.length_set, Int.toNat_natCast, and_true] at *; omega)) ?_ | refine LoopN.go ?_ | exact trivial | refine AltVC.mk ?_ ?_ | refine HeldVC.mk rfl ?_ | refine LoadVC.mk _ gk ?_ | refine CallVC.pure c1 rfl ?_ | refine CallVC.pure c2 rfl ?_ | refine SideVC.mk (by rw [hml]; omega) ?_ | refine OpVC.more tt_ok ?_ | refine RestVC.ext tt_ok ?_)); all_goals (conv => whnf)
          all_goals first
            | (exfalso; omega)
            | exact ⟨k + 1, hnx, by omega, Sub.mk [] _ ⟨rfl, rfl, rfl, rfl, rfl, rfl, trivial⟩ rfl rfl⟩
      · exfalso
        obtain ⟨j, hj, rfl⟩ := List.getElem_of_mem hm0
        exact hkn j hj (by omega) hma0
theorem fpF_len (w v : Tx) : (fpF w v).length ≤ 1000000 ∧ (isBetF w v = true → (exchF false v w).length ≤ 1000000) := by
  have h1 : isBetF w v = true → (exchF false v w).length ≤ 1000000 := fun h => by
    have h2 := exchF_len false v _ w rfl
    have h3 := wayF_le w
    have h4 : w.length * w.length ≤ 10 * 10 := Nat.mul_le_mul (bet_facts h).1.2 (bet_facts h).1.2
    omega
  refine ⟨?_, h1⟩
  unfold fpF
  split
  · exact h1 (by assumption)
  · simp
theorem lawFirstPlay_spec (w : Tx) (hw : w.length ≤ 9223372036854775807) (v : Tx) (hv : v.length ≤ 9223372036854775807) : Spec Tryd.prog 5 [.c (.str w), .c (.str v)] [] (isRes [vb true] []) := by
  refine Spec.of_wpx tt_ok Tryd.func5 (by kernel_rfl) rfl ?_
  by_cases hb : w.length ≤ 1048576 ∧ v.length ≤ 1048576
  · have hl := fpF_len w v
    have h1 := specFirstPlay_spec w v hb.1 hb.2 hl.2
    have h2 := implFirstPlay_spec w v hb.1 hb.2 hl.2
    have hl1 := hl.1
    clear hl
    generalize fpF w v = l at *
    generalize isBetF w v = b at *
    cases b
    all_goals
      (repeat' ((conv => whnf); first | refine CondVC.t ?_ | refine CondVC.f ?_ | refine CondVC.dec (fun h => ?_) (fun h => ?_) | refine CondVC.ndec (fun h => ?_) (fun h => ?_) | refine CondVC.mk (fun h => ?_) (fun h => ?_) | refine ArVC.i64 (by first | omega | (simp only; omega)) ?_ | refine SideVC.mk (by first | omega | decide | (simp only; omega) | (simp [slS]; done) | (simp [slS]; omega) | (simp only [byteE_len, mvE_len, strE_len, intE_len, esC_len, List.length_cons, List.length_nil, List.length_append, List.length_replicate, List.length_set, Int.toNat_natCast, and_true] at *; omega)) ?_ | refine LoopN.go ?_ | exact trivial | refine AltVC.mk ?_ ?_ | refine HeldVC.mk rfl ?_ | refine CallVC.res [] rfl (Spec.ren [(1001, 2001)] [(2001, 1001)] h1 rfl rfl rfl) rfl ?_ | refine CallVC.res [] rfl (Spec.ren [(1001, 2002)] [(2002, 1001)] h2 rfl rfl rfl) rfl ?_ | refine CallVC.res [] rfl (Spec.ren [(1001, 2003)] [(2003, 1001)] h2 rfl rfl rfl) rfl ?_ | refine CallVC.res [2002, 2001] rfl (Spec.ren [(1000, 2002), (1001, 2001)] [(2002, 1000), (2001, 1001)] (eqMoveS_self l (by omega)) rfl rfl rfl) rfl ?_ | refine CallVC.res [2003, 2001] rfl (Spec.ren [(1000, 2003), (1001, 2001)] [(2003, 1000), (2001, 1001)] (eqMoveS_self l (by omega)) rfl rfl rfl) rfl ?_ | refine CallVC.res [2002] rfl (Spec.ren [(1000, 2002)] [(2002, 1000)] (markMoveS_spec l 1 (by omega) (by omega)) rfl rfl rfl) rfl ?_ | refine CallVC.res [2002] rfl (Spec.ren [(1000, 2002)] [(2002, 1000)] (heldMoveS_spec l.length 1 (by omega) (by omega)) rfl rfl rfl) rfl ?_ | refine OpVC.more tt_ok ?_ | refine RestVC.ext tt_ok ?_)); all_goals (conv => whnf)
      all_goals first | exact RetVC.res rfl rfl | (exfalso; omega) | (exfalso; simp_all; done)
  · (repeat' ((conv => whnf); first | refine CondVC.t ?_ | refine CondVC.f ?_ | refine CondVC.dec (fun h => ?_) (fun h => ?_) | refine CondVC.ndec (fun h => ?_) (fun h => ?_) | refine CondVC.mk (fun h => ?_) (fun h => ?_) | refine ArVC.i64 (by first | omega | (simp only; omega)) ?_ | refine SideVC.mk (by first | omega | decide | (simp only; omega) | (simp [slS]; done) | (simp [slS]; omega) | (simp only [byteE_len, mvE_len, strE_len, intE_len, esC_len, List.length_cons, List.length_nil, List.length_append, List.length_replicate, List.length_set, Int.toNat_natCast, and_true] at *; omega)) ?_ | refine LoopN.go ?_ | exact trivial | refine AltVC.mk ?_ ?_ | refine HeldVC.mk rfl ?_ | refine OpVC.more tt_ok ?_ | refine RestVC.ext tt_ok ?_)); all_goals (conv => whnf)
    all_goals first | exact RetVC.res rfl rfl | (exfalso; omega)
end Go.Proofs.YtblihaicbhdbdaaDoor.X
