/- The longest and the shortest game, and how many there are: the program's, with its memo in a map; the laws. No condition beyond each statement's. -/
import Derived.Test.YtblihaicbhdbdaaDoorGamW
import Derived.Test.YtblihaicbhdbdaaDoorDrawM
namespace Go.Proofs.YtblihaicbhdbdaaDoor.X
open Go.Proofs
set_option maxRecDepth 100000
set_option linter.unusedVariables false
set_option linter.unusedSimpArgs false

/-- The orders of the region that puts the three numbers together. -/
def trG12 : Tr := .take 0 (.take 2 (.take 3 (.take 4 (.take 6 (.take 8 (.take 9 (.take 10 (.take 12 (.take 14 (.take 15 (.alt 1 (.take 5 (.alt 7 (.take 11 (.alt 13 (.take 16 (.take 17 (.alt 18 (.take 19 (.alt 20 (.take 21 (.alt 22 (.done) (.no))) (.no))) (.no)))) (.no))) (.alt 13 (.take 16 (.alt 7 (.take 11 (.take 17 (.alt 18 (.take 19 (.alt 20 (.take 21 (.alt 22 (.done) (.no))) (.no))) (.no)))) (.no))) (.no)))) (.alt 7 (.take 11 (.alt 1 (.take 5 (.alt 13 (.take 16 (.take 17 (.alt 18 (.take 19 (.alt 20 (.take 21 (.alt 22 (.done) (.no))) (.no))) (.no)))) (.no))) (.alt 13 (.take 16 (.alt 1 (.take 5 (.take 17 (.alt 18 (.take 19 (.alt 20 (.take 21 (.alt 22 (.done) (.no))) (.no))) (.no)))) (.no))) (.no)))) (.alt 13 (.take 16 (.alt 1 (.take 5 (.alt 7 (.take 11 (.take 17 (.alt 18 (.take 19 (.alt 20 (.take 21 (.alt 22 (.done) (.no))) (.no))) (.no)))) (.no))) (.alt 7 (.take 11 (.alt 1 (.take 5 (.take 17 (.alt 18 (.take 19 (.alt 20 (.take 21 (.alt 22 (.done) (.no))) (.no))) (.no)))) (.no))) (.no)))) (.no))))))))))))))
def gmC (g : Gm) : List C := [.int .i64 g.long, .int .i64 g.short, .int .i64 (g.count : Int)]
def okGm (es : List (C × V)) : Prop := ∀ p ∈ es, ∃ t w, p = (.str (kOf t ++ w), .agg (gmC (gamF w t)))
theorem kOf_inj {t t' : Bool} {w w' : Tx} (h : kOf t ++ w = kOf t' ++ w') : t = t' ∧ w = w' := by
  cases t <;> cases t' <;> simp [kOf] at h <;> simp [h]
theorem okGm_get {es : List (C × V)} {t : Bool} {w : Tx} {v : V} (h : okGm es) (hg : getM es (.str (kOf t ++ w)) = some v) : v = .agg (gmC (gamF w t)) := by
  obtain ⟨k, hk, he⟩ := getM_mem hg
  obtain ⟨t', w', e⟩ := h _ hk
  simp only [Prod.mk.injEq] at e
  obtain ⟨rfl, rfl⟩ := e
  simp only [keyEq, decide_eq_true_eq] at he
  obtain ⟨rfl, rfl⟩ := kOf_inj he
  rfl
theorem okGm_set {es : List (C × V)} {t : Bool} {w : Tx} (h : okGm es) : okGm (setM es (.str (kOf t ++ w)) (.agg (gmC (gamF w t)))) := fun p hp => by
  rcases mem_setM hp with hp | hp
  · exact h p hp
  · exact ⟨t, w, hp⟩
def gmM (es : List (C × V)) : Mem := [(1005, .box 81 [.mp 1000]), (1000, .ext (.mp none es)), (1006, .box 82 [.fn 67 [1005, 1006]])]
def GamS (w : Tx) (t : Bool) : Prop := ∀ es, okGm es → Spec Tryd.prog 67 [.c (.str w), vb t, .c (.ptr 1005 0), .c (.ptr 1006 0)] (gmM es) (exRes okGm (fun _ => [.agg (gmC (gamF w t))]) gmM)
theorem maxI (a b : Int) : (if a < b then b else a) = max a b := maxEq a b
theorem minI (a b : Int) : (if b < a then b else a) = min a b := by
  rw [Int.min_def]; split <;> split <;> omega
set_option maxHeartbeats 4000000 in
theorem gam1_spec : ∀ (n : Nat) (w : Tx) (t : Bool), wayF w < n → w.length ≤ 10 → GamS w t
  | 0, w, t, hn, _ => absurd hn (Nat.not_lt_zero _)
  | n + 1, w, t, hn, hw => by
    intro es hes
    have hk1 := kindOf_spec t
    have h1 := moves_spec w (kOf t) (by omega)
    have hin : ∀ m ∈ movesF w (kOf t), _ := fun m hm => movesF_in hm
    have hmk : ∀ m ∈ movesF w (kOf t), _ := fun m hm => made_spec w m (hin m hm).1 (hin m hm).2.1 (by omega)
    have hrec : ∀ m ∈ movesF w (kOf t), GamS (madeF w m) (!t) ∧ wayF (madeF w m) < wayF w := fun m hm =>
      ⟨gam1_spec n (madeF w m) (!t) (by have := way_made hm; omega) (by rw [madeF_len]; exact hw), way_made hm⟩
    have hll := movesF_len w (kOf t)
    have hrl := resL_len w t
    have hrg : ∀ k (h : k < (movesF w (kOf t)).length) (h' : k < (resL w t).length), (resL w t)[k] = gamF (madeF w (movesF w (kOf t))[k]) (!t) := fun k h _ => resL_get (w := w) (t := t) h
    have hbd := to_bound w t
    have hct := cntTo_le w t
    have hcf := cnt_few hw t
    have hcp := cnt_pos (wayF w) w t (Nat.le_refl _)
    have hws := way_small (w := w) (by omega)
    have hge := gamF_eq w t
    have hget : ∀ {v : V}, getM es (.str (kOf t ++ w)) = some v → v = .agg (gmC (gamF w t)) := fun h => okGm_get hes h
    have hset : ∀ es, okGm es → okGm (setM es (.str (kOf t ++ w)) (.agg (gmC (gamF w t)))) := fun es h => okGm_set h
    have hkl : (kOf t ++ w).length ≤ 11 := by cases t <;> simp [kOf] <;> omega
    have hko : (kOf t).length = 1 := by cases t <;> rfl
    generalize hwf : gamF w t = gm at *
    generalize resL w t = rl at *
    generalize hkt : kOf t = kd at *
    generalize movesF w kd = l at *
    have hml := mvE_len l
    unfold gmM gmC at *
    refine Spec.of_wpx tt_ok Tryd.func67 (by kernel_rfl) rfl ?_
    (repeat' ((conv => whnf); first | refine CondVC.t ?_ | refine CondVC.f ?_ | refine CondVC.dec (fun h => ?_) (fun h => ?_) | refine CondVC.ndec (fun h => ?_) (fun h => ?_) | refine CondVC.mk (fun h => ?_) (fun h => ?_) | refine ArVC.i64 (by first | omega | (simp only; omega)) ?_ | refine SideVC.mk (by first | omega | decide | (simp only; omega) | (simp [slS]; done) | (simp [slS]; omega) | (simp only [byteE_len, mvE_len, strE_len, intE_len, esC_len, List.length_cons, List.length_nil, List.length_append, List.length_replicate, List.length_set, Int.toNat_natCast, and_true] at *; omega)) ?_ | refine LoopN.go ?_ | exact trivial | refine AltVC.mk ?_ ?_ | refine HeldVC.mk rfl ?_ | refine CallVC.pure hk1 rfl ?_ | refine SideVC.mk (by simp only [List.length_append] at *; omega) ?_ | (refine LookVC.mk (fun v hv => ?_) (fun hv => ?_); obtain rfl := hget hv) | refine CallVC.res [] rfl h1 rfl ?_ | refine OpVC.more tt_ok ?_ | refine RestVC.ext tt_ok ?_)); all_goals (conv => whnf)
    · exact RetVC.mk rfl ⟨es, hes, rfl, rfl⟩
    have hz1 : longTo rl 0 = 0 := rfl
    have hz2 : shortTo rl 0 = 0 := rfl
    have hz3 : cntTo rl 0 = 0 := rfl
    have hs1 := fun k (h : k < rl.length) => longTo_succ h
    have hs2 := fun k (h : k < rl.length) (h0 : k ≠ 0) => shortTo_succ h h0
    have hs20 := fun (h : 0 < rl.length) => shortTo_one h
    have hs3 := fun k (h : k < rl.length) => cntTo_succ h
    have he1 := fun k (h : rl.length ≤ k) => longTo_end h
    have he2 := fun k (h : rl.length ≤ k) => shortTo_end h
    have he3 : ∀ k, rl.length ≤ k → (if (1 : Int) < (cntTo rl k : Nat) then ((cntTo rl k : Nat) : Int) else 1) = (gm.count : Int) := fun k h => by
      by_cases h0 : rl = []
      · have e1 : cntTo rl k = 0 := by rw [h0]; simp [cntTo]
        have e2 : gm.count = 1 := by rw [hge, h0]; rfl
        rw [e1, e2]; rfl
      · rw [cntTo_end h h0, ← hge]
        split <;> omega
    generalize longTo rl = f1 at *
    generalize shortTo rl = f2 at *
    generalize cntTo rl = f3 at *
    refine LoopVC.mk (G := Nat × List (C × V)) (fun γ => ⟨[(32, .v (i64 γ.1)), (31, .v (i64 l.length)), (30, .v (.c (.sl 1001))), (10, .v (.c (.ptr 10 0))), (7, .v (.c (.str (kd ++ w)))), (6, .v (.c (.ptr 6 0))), (3, .v (.c (.ptr 1006 0))), (2, .v (.c (.ptr 1005 0))), (1, .v (vb t)), (0, .v (.c (.str w)))],
        [(1001, .sl 45 2 (mvE l)), (10, .box 63 [.int .i64 (f1 γ.1), .int .i64 (f2 γ.1), .int .i64 (f3 γ.1 : Nat)]), (6, .box 63 [.int .i64 0, .int .i64 0, .int .i64 0]), (1005, .box 81 [.mp 1000]), (1000, .ext (.mp none γ.2)), (1006, .box 82 [.fn 67 [1005, 1006]])]⟩)
      (fun γ => γ.1 ≤ l.length ∧ okGm γ.2) (fun γ => l.length - γ.1) (0, es) ⟨Nat.zero_le _, hes⟩ (Sub.mk [] _ ⟨rfl, by rw [hml]; rfl, rfl, rfl, rfl, rfl, rfl, rfl, rfl, rfl, trivial⟩ (by simp only [hz1, hz2, hz3]; rfl) rfl) ?_
    rintro ⟨j, es⟩ ⟨hj, hes⟩
    simp only at hj hes
    by_cases hjl : j < l.length
    · have hmem := List.getElem_mem hjl
      have g2 : (mvE l)[(j : Int).toNat]? = some (mvC l[j]) := by rw [Int.toNat_natCast]; exact mvE_get hjl
      have h6 := hmk _ hmem
      obtain ⟨h8a, hwm⟩ := hrec _ hmem
      have h8 := h8a es hes
      unfold gmM gmC at h8
      have hs1 := hs1 j (by omega)
      have hs2 := hs2 j (by omega)
      have hs3 := hs3 j (by omega)
      have hgj := hrg j hjl (by omega)
      have hb0 := hbd j
      have hb1 := hbd (j + 1)
      have hc1 := hct (j + 1)
      have hs20j : j = 0 → f2 (j + 1) = rl[j].short + 1 := fun e => by subst e; exact hs20 (by omega)
      rw [hgj] at hs1 hs2 hs3 hs20j
      obtain ⟨u, hu⟩ : ∃ u, u = madeF w l[j] := ⟨_, rfl⟩
      rw [← hu] at h6 h8 hwm hs1 hs2 hs3 hs20j
      have hub := gam_bound (wayF u) u (!t) (Nat.le_refl _)
      generalize gamF u (!t) = gu at *
      generalize l[j] = m at *
      by_cases hj0 : j = 0
      · have hs2 := hs20j hj0
        have hc : [C.int .i64 (f1 (j + 1)), C.int .i64 (f2 (j + 1)), C.int .i64 ((f3 (j + 1) : Nat) : Int)] = [C.int .i64 (if f1 j < gu.long + 1 then gu.long + 1 else f1 j), C.int .i64 (if gu.short + 1 < (gu.short + 1) then gu.short + 1 else (gu.short + 1)), C.int .i64 ((f3 j : Nat) + (gu.count : Nat) : Int)] := by
          rw [maxI, minI, ← hs1, hs3, Int.natCast_add, hs2]
          simp
        (repeat' ((conv => whnf); first | refine CondVC.t ?_ | refine CondVC.f ?_ | refine CondVC.dec (fun h => ?_) (fun h => ?_) | refine CondVC.ndec (fun h => ?_) (fun h => ?_) | refine CondVC.mk (fun h => ?_) (fun h => ?_) | refine ArVC.i64 (by first | omega | (simp only; omega)) ?_ | refine SideVC.mk (by first | omega | decide | (simp only; omega) | (simp [slS]; done) | (simp [slS]; omega) | (simp only [byteE_len, mvE_len, strE_len, intE_len, esC_len, List.length_cons, List.length_nil, List.length_append, List.length_replicate, List.length_set, Int.toNat_natCast, and_true] at *; omega)) ?_ | refine LoopN.go ?_ | exact trivial | refine AltVC.mk ?_ ?_ | refine HeldVC.mk rfl ?_ | refine LoadVC.mk _ g2 ?_ | refine SideVC.mk (by rw [hml]; omega) ?_ | refine CallVC.pure h6 rfl ?_ | (refine CallVC.ex [1005, 1000, 1006] rfl h8 ?_; intro es' hes'; refine ⟨rfl, ?_⟩) | refine DrawVC.tree (id := 9) tt_ok [12, 1006] tr67_9 (by kernel_rfl) (by kernel_rfl) rfl ?_ | refine DrawVC.join (id := 12) ⟨[(32, .v (i64 j)), (31, .v (i64 l.length)), (30, .v (.c (.sl 1001))), (10, .v (.c (.ptr 10 0))), (7, .v (.c (.str (kd ++ w)))), (6, .v (.c (.ptr 6 0))), (3, .v (.c (.ptr 1006 0))), (2, .v (.c (.ptr 1005 0))), (1, .v (vb t)), (0, .v (.c (.str w)))], [(1001, .sl 45 2 (mvE l)), (10, .box 63 [.int .i64 (f1 (j + 1)), .int .i64 (f2 (j + 1)), .int .i64 (f3 (j + 1) : Nat)]), (6, .box 63 [.int .i64 0, .int .i64 0, .int .i64 0]), (1005, .box 81 [.mp 1000]), (1000, .ext (.mp none es')), (1006, .box 82 [.fn 67 [1005, 1006]])]⟩ (DrawVC.treeM (id := 12) tt_ok [13] trG12 (by kernel_rfl) (by kernel_rfl) rfl ?_) ?_ | exact SubVC.mk [] _ ⟨rfl, rfl, rfl, rfl, rfl, rfl, rfl, rfl, rfl, rfl, trivial⟩ (by simp only [hc]; rfl) rfl | refine OpVC.more tt_ok ?_ | refine RestVC.ext tt_ok ?_)); all_goals (conv => whnf)
        all_goals first
          | (exfalso; omega)
          | exact ⟨(j + 1, es'), ⟨by omega, hes'⟩, by simp only; omega, Sub.mk [] _ ⟨rfl, rfl, rfl, rfl, rfl, rfl, rfl, rfl, rfl, rfl, trivial⟩ rfl rfl⟩
      · have hs2 := hs2 hj0
        have hc : [C.int .i64 (f1 (j + 1)), C.int .i64 (f2 (j + 1)), C.int .i64 ((f3 (j + 1) : Nat) : Int)] = [C.int .i64 (if f1 j < gu.long + 1 then gu.long + 1 else f1 j), C.int .i64 (if gu.short + 1 < (f2 j) then gu.short + 1 else (f2 j)), C.int .i64 ((f3 j : Nat) + (gu.count : Nat) : Int)] := by
          rw [maxI, minI, ← hs1, hs3, Int.natCast_add, hs2]
        (repeat' ((conv => whnf); first | refine CondVC.t ?_ | refine CondVC.f ?_ | refine CondVC.dec (fun h => ?_) (fun h => ?_) | refine CondVC.ndec (fun h => ?_) (fun h => ?_) | refine CondVC.mk (fun h => ?_) (fun h => ?_) | refine ArVC.i64 (by first | omega | (simp only; omega)) ?_ | refine SideVC.mk (by first | omega | decide | (simp only; omega) | (simp [slS]; done) | (simp [slS]; omega) | (simp only [byteE_len, mvE_len, strE_len, intE_len, esC_len, List.length_cons, List.length_nil, List.length_append, List.length_replicate, List.length_set, Int.toNat_natCast, and_true] at *; omega)) ?_ | refine LoopN.go ?_ | exact trivial | refine AltVC.mk ?_ ?_ | refine HeldVC.mk rfl ?_ | refine LoadVC.mk _ g2 ?_ | refine SideVC.mk (by rw [hml]; omega) ?_ | refine CallVC.pure h6 rfl ?_ | (refine CallVC.ex [1005, 1000, 1006] rfl h8 ?_; intro es' hes'; refine ⟨rfl, ?_⟩) | refine DrawVC.tree (id := 9) tt_ok [12, 1006] tr67_9 (by kernel_rfl) (by kernel_rfl) rfl ?_ | refine DrawVC.join (id := 12) ⟨[(32, .v (i64 j)), (31, .v (i64 l.length)), (30, .v (.c (.sl 1001))), (10, .v (.c (.ptr 10 0))), (7, .v (.c (.str (kd ++ w)))), (6, .v (.c (.ptr 6 0))), (3, .v (.c (.ptr 1006 0))), (2, .v (.c (.ptr 1005 0))), (1, .v (vb t)), (0, .v (.c (.str w)))], [(1001, .sl 45 2 (mvE l)), (10, .box 63 [.int .i64 (f1 (j + 1)), .int .i64 (f2 (j + 1)), .int .i64 (f3 (j + 1) : Nat)]), (6, .box 63 [.int .i64 0, .int .i64 0, .int .i64 0]), (1005, .box 81 [.mp 1000]), (1000, .ext (.mp none es')), (1006, .box 82 [.fn 67 [1005, 1006]])]⟩ (DrawVC.treeM (id := 12) tt_ok [13] trG12 (by kernel_rfl) (by kernel_rfl) rfl ?_) ?_ | exact SubVC.mk [] _ ⟨rfl, rfl, rfl, rfl, rfl, rfl, rfl, rfl, rfl, rfl, trivial⟩ (by simp only [hc]; rfl) rfl | refine OpVC.more tt_ok ?_ | refine RestVC.ext tt_ok ?_)); all_goals (conv => whnf)
        all_goals first
          | (exfalso; omega)
          | exact ⟨(j + 1, es'), ⟨by omega, hes'⟩, by simp only; omega, Sub.mk [] _ ⟨rfl, rfl, rfl, rfl, rfl, rfl, rfl, rfl, rfl, rfl, trivial⟩ rfl rfl⟩
    · have e1 := he1 j (by omega)
      have e2 := he2 j (by omega)
      have e3 := he3 j (by omega)
      rw [← hge] at e1 e2
      have hset := hset es hes
      have hc : [C.int .i64 (f1 j), C.int .i64 (f2 j), C.int .i64 (if (1 : Int) < (f3 j : Nat) then ((f3 j : Nat) : Int) else 1)] = [C.int .i64 gm.long, C.int .i64 gm.short, C.int .i64 (gm.count : Int)] := by
        rw [e1, e2, e3]
      (repeat' ((conv => whnf); first | refine CondVC.t ?_ | refine CondVC.f ?_ | refine CondVC.dec (fun h => ?_) (fun h => ?_) | refine CondVC.ndec (fun h => ?_) (fun h => ?_) | refine CondVC.mk (fun h => ?_) (fun h => ?_) | refine ArVC.i64 (by first | omega | (simp only; omega)) ?_ | refine SideVC.mk (by first | omega | decide | (simp only; omega) | (simp [slS]; done) | (simp [slS]; omega) | (simp only [byteE_len, mvE_len, strE_len, intE_len, esC_len, List.length_cons, List.length_nil, List.length_append, List.length_replicate, List.length_set, Int.toNat_natCast, and_true] at *; omega)) ?_ | refine LoopN.go ?_ | exact trivial | refine AltVC.mk ?_ ?_ | refine HeldVC.mk rfl ?_ | refine OpVC.more tt_ok ?_ | refine RestVC.ext tt_ok ?_)); all_goals (conv => whnf)
      all_goals first
        | (exfalso; omega)
        | exact RetVC.mk rfl ⟨_, hset, congrArg (fun z => [V.agg z]) hc, by simp only [← hc]; rfl⟩

def gmAsk (w : Tx) (t : Bool) : Gm := if lineOf w 10 then gamF w t else ⟨0, 0, 0⟩
theorem gamesFrom_spec (w : Tx) (t : Bool) (hw : w.length ≤ 1048576) : Spec Tryd.prog 49 [.c (.str w), vb t] [] (isRes [.agg (gmC (gmAsk w t)), vb (lineOf w 10)] []) := by
  have h1 := isPlayed_spec w hw
  unfold gmAsk
  refine Spec.of_wpx tt_ok Tryd.func49 (by kernel_rfl) rfl ?_
  cases hl : lineOf w 10 with
  | true =>
    rw [hl] at h1
    have h2 := gam1_spec (wayF w + 1) w t (by omega) (by have := line_len hl; omega) [] (fun p hp => by cases hp)
    unfold gmM at h2
    have h2 := Spec.renE [(1005, 6), (1006, 7), (1000, 12)] [(6, 1005), (7, 1006), (12, 1000)] h2 (fun _ => rfl) (fun _ => rfl) rfl
    rw [if_pos rfl]
    generalize gamF w t = g at *
    unfold gmC at *
    (repeat' ((conv => whnf); first | refine CondVC.t ?_ | refine CondVC.f ?_ | refine CondVC.dec (fun h => ?_) (fun h => ?_) | refine CondVC.ndec (fun h => ?_) (fun h => ?_) | refine CondVC.mk (fun h => ?_) (fun h => ?_) | refine ArVC.i64 (by first | omega | (simp only; omega)) ?_ | refine SideVC.mk (by first | omega | decide | (simp only; omega) | (simp [slS]; done) | (simp [slS]; omega) | (simp only [byteE_len, mvE_len, strE_len, intE_len, esC_len, List.length_cons, List.length_nil, List.length_append, List.length_replicate, List.length_set, Int.toNat_natCast, and_true] at *; omega)) ?_ | refine LoopN.go ?_ | exact trivial | refine AltVC.mk ?_ ?_ | refine HeldVC.mk rfl ?_ | refine CallVC.pure h1 rfl ?_ | (refine CallVC.ex [6, 12, 7] rfl h2 ?_; intro es' hes'; refine ⟨rfl, ?_⟩) | refine OpVC.more tt_ok ?_ | refine RestVC.ext tt_ok ?_)); all_goals (conv => whnf)
    all_goals exact RetVC.res rfl rfl
  | false =>
    rw [hl] at h1
    rw [if_neg Bool.false_ne_true]
    (repeat' ((conv => whnf); first | refine CondVC.t ?_ | refine CondVC.f ?_ | refine CondVC.dec (fun h => ?_) (fun h => ?_) | refine CondVC.ndec (fun h => ?_) (fun h => ?_) | refine CondVC.mk (fun h => ?_) (fun h => ?_) | refine ArVC.i64 (by first | omega | (simp only; omega)) ?_ | refine SideVC.mk (by first | omega | decide | (simp only; omega) | (simp [slS]; done) | (simp [slS]; omega) | (simp only [byteE_len, mvE_len, strE_len, intE_len, esC_len, List.length_cons, List.length_nil, List.length_append, List.length_replicate, List.length_set, Int.toNat_natCast, and_true] at *; omega)) ?_ | refine LoopN.go ?_ | exact trivial | refine AltVC.mk ?_ ?_ | refine HeldVC.mk rfl ?_ | refine CallVC.pure h1 rfl ?_ | refine OpVC.more tt_ok ?_ | refine RestVC.ext tt_ok ?_)); all_goals (conv => whnf)
    all_goals exact RetVC.res rfl rfl
theorem implLongestGame_spec (w : Tx) (t : Bool) (hw : w.length ≤ 1048576) : Spec Tryd.prog 22 [.c (.str w), vb t] [] (isRes [i64 (gmAsk w t).long, vb (lineOf w 10)] []) := by
  have h1 := gamesFrom_spec w t hw
  generalize gmAsk w t = g at *
  unfold gmC at *
  refine Spec.of_wpx tt_ok Tryd.func22 (by kernel_rfl) rfl ?_
  (repeat' ((conv => whnf); first | refine CondVC.t ?_ | refine CondVC.f ?_ | refine CondVC.dec (fun h => ?_) (fun h => ?_) | refine CondVC.ndec (fun h => ?_) (fun h => ?_) | refine CondVC.mk (fun h => ?_) (fun h => ?_) | refine ArVC.i64 (by first | omega | (simp only; omega)) ?_ | refine SideVC.mk (by first | omega | decide | (simp only; omega) | (simp [slS]; done) | (simp [slS]; omega) | (simp only [byteE_len, mvE_len, strE_len, intE_len, esC_len, List.length_cons, List.length_nil, List.length_append, List.length_replicate, List.length_set, Int.toNat_natCast, and_true] at *; omega)) ?_ | refine LoopN.go ?_ | exact trivial | refine AltVC.mk ?_ ?_ | refine HeldVC.mk rfl ?_ | refine CallVC.pure h1 rfl ?_ | refine OpVC.more tt_ok ?_ | refine RestVC.ext tt_ok ?_)); all_goals (conv => whnf)
  all_goals exact RetVC.res rfl rfl
theorem implShortestGame_spec (w : Tx) (t : Bool) (hw : w.length ≤ 1048576) : Spec Tryd.prog 24 [.c (.str w), vb t] [] (isRes [i64 (gmAsk w t).short, vb (lineOf w 10)] []) := by
  have h1 := gamesFrom_spec w t hw
  generalize gmAsk w t = g at *
  unfold gmC at *
  refine Spec.of_wpx tt_ok Tryd.func24 (by kernel_rfl) rfl ?_
  (repeat' ((conv => whnf); first | refine CondVC.t ?_ | refine CondVC.f ?_ | refine CondVC.dec (fun h => ?_) (fun h => ?_) | refine CondVC.ndec (fun h => ?_) (fun h => ?_) | refine CondVC.mk (fun h => ?_) (fun h => ?_) | refine ArVC.i64 (by first | omega | (simp only; omega)) ?_ | refine SideVC.mk (by first | omega | decide | (simp only; omega) | (simp [slS]; done) | (simp [slS]; omega) | (simp only [byteE_len, mvE_len, strE_len, intE_len, esC_len, List.length_cons, List.length_nil, List.length_append, List.length_replicate, List.length_set, Int.toNat_natCast, and_true] at *; omega)) ?_ | refine LoopN.go ?_ | exact trivial | refine AltVC.mk ?_ ?_ | refine HeldVC.mk rfl ?_ | refine CallVC.pure h1 rfl ?_ | refine OpVC.more tt_ok ?_ | refine RestVC.ext tt_ok ?_)); all_goals (conv => whnf)
  all_goals exact RetVC.res rfl rfl
theorem implCountGames_spec (w : Tx) (t : Bool) (hw : w.length ≤ 1048576) : Spec Tryd.prog 26 [.c (.str w), vb t] [] (isRes [i64 ((gmAsk w t).count : Int), vb (lineOf w 10)] []) := by
  have h1 := gamesFrom_spec w t hw
  generalize gmAsk w t = g at *
  unfold gmC at *
  refine Spec.of_wpx tt_ok Tryd.func26 (by kernel_rfl) rfl ?_
  (repeat' ((conv => whnf); first | refine CondVC.t ?_ | refine CondVC.f ?_ | refine CondVC.dec (fun h => ?_) (fun h => ?_) | refine CondVC.ndec (fun h => ?_) (fun h => ?_) | refine CondVC.mk (fun h => ?_) (fun h => ?_) | refine ArVC.i64 (by first | omega | (simp only; omega)) ?_ | refine SideVC.mk (by first | omega | decide | (simp only; omega) | (simp [slS]; done) | (simp [slS]; omega) | (simp only [byteE_len, mvE_len, strE_len, intE_len, esC_len, List.length_cons, List.length_nil, List.length_append, List.length_replicate, List.length_set, Int.toNat_natCast, and_true] at *; omega)) ?_ | refine LoopN.go ?_ | exact trivial | refine AltVC.mk ?_ ?_ | refine HeldVC.mk rfl ?_ | refine CallVC.pure h1 rfl ?_ | refine OpVC.more tt_ok ?_ | refine RestVC.ext tt_ok ?_)); all_goals (conv => whnf)
  all_goals exact RetVC.res rfl rfl
theorem specLongestGame_spec (w : Tx) (t : Bool) (hw : w.length ≤ 1048576) : Spec Tryd.prog 21 [.c (.str w), vb t] [] (isRes [i64 (gmAsk w t).long, vb (lineOf w 10)] []) := by
  have h1 := gaFew_spec w hw
  unfold gmAsk
  refine Spec.of_wpx tt_ok Tryd.func21 (by kernel_rfl) rfl ?_
  cases hl : lineOf w 10 with
  | true =>
    rw [hl] at h1
    rw [if_pos rfl]
    have hok := line_ok hl
    have hwl : w.length ≤ 10 := by have := line_len hl; omega
    have h2 := len_spec (wayF w + 1) w t (by omega) hok hwl ([], [], [], []) okLn_nil
    unfold lnM lnR at h2
    have h2 := Spec.renE [(1000, 12), (1001, 2001), (1002, 2002), (1003, 2003), (1004, 2004), (1011, 2011), (1012, 2012), (1013, 2013), (1014, 2014)] [(12, 1000), (2001, 1001), (2002, 1002), (2003, 1003), (2004, 1004), (2011, 1011), (2012, 1012), (2013, 1013), (2014, 1014)] h2 (fun _ => rfl) (fun _ => rfl) rfl
    have hgt := fun x i (h1 : okLn x) h2 => okLn_get (x := x) (i := i) h1 (one_okLs hok hwl) (t := t) h2
    generalize gamF w t = gm at *
    generalize keyF t [w] = ku at *
    (repeat' ((conv => whnf); first | refine CondVC.t ?_ | refine CondVC.f ?_ | refine CondVC.dec (fun h => ?_) (fun h => ?_) | refine CondVC.ndec (fun h => ?_) (fun h => ?_) | refine CondVC.mk (fun h => ?_) (fun h => ?_) | refine ArVC.i64 (by first | omega | (simp only; omega)) ?_ | refine SideVC.mk (by first | omega | decide | (simp only; omega) | (simp [slS]; done) | (simp [slS]; omega) | (simp only [byteE_len, mvE_len, strE_len, intE_len, esC_len, List.length_cons, List.length_nil, List.length_append, List.length_replicate, List.length_set, Int.toNat_natCast, and_true] at *; omega)) ?_ | refine LoopN.go ?_ | exact trivial | refine AltVC.mk ?_ ?_ | refine HeldVC.mk rfl ?_ | refine CallVC.pure h1 rfl ?_ | (refine CallVC.nil 2001 9 1 [.c (.ptr 12 0), .c (.str w), vb t] [(12, .box 60 [.sl 2001, .val (.slice none 0 0), .val (.slice none 0 0), .val (.slice none 0 0)])] rfl rfl rfl ?_; refine CallVC.nil 2002 3 1 [.c (.ptr 12 0), .c (.str w), vb t] [(2001, .sl 9 1 []), (12, .box 60 [.sl 2001, .sl 2002, .val (.slice none 0 0), .val (.slice none 0 0)])] rfl rfl rfl ?_; refine CallVC.nil 2003 3 1 [.c (.ptr 12 0), .c (.str w), vb t] [(2002, .sl 3 1 []), (2001, .sl 9 1 []), (12, .box 60 [.sl 2001, .sl 2002, .sl 2003, .val (.slice none 0 0)])] rfl rfl rfl ?_; refine CallVC.nil 2004 3 1 [.c (.ptr 12 0), .c (.str w), vb t] [(2003, .sl 3 1 []), (2002, .sl 3 1 []), (2001, .sl 9 1 []), (12, .box 60 [.sl 2001, .sl 2002, .sl 2003, .sl 2004])] rfl rfl rfl ?_; refine CallVC.ex [12, 2001, 2002, 2003, 2004] rfl h2 ?_; rintro ⟨x', i⟩ hx'; refine ⟨rfl, ?_⟩; have a1 : okLn x' := hx'.1; have a3 : x'.1[i]? = some ku := hx'.2.2; obtain ⟨hi, v1, v2, v3⟩ := hgt x' i a1 a3; have w1 : (intE x'.2.1)[(i : Int).toNat]? = some [.int .i64 gm.long] := (by rw [Int.toNat_natCast]; unfold intE; rw [List.getElem?_map, v1]; rfl); have q1 := intE_len x'.2.1; have q2 := intE_len x'.2.2.1; have q3 := intE_len x'.2.2.2; have q0 := a1.1; have hfew := okLn_few a1) | refine LoadVC.mk _ w1 ?_ | refine SideVC.mk (by simp only [q1, q2, q3]; omega) ?_ | refine OpVC.more tt_ok ?_ | refine RestVC.ext tt_ok ?_)); all_goals (conv => whnf)
    all_goals first
      | (exfalso; omega)
      | exact RetVC.res rfl rfl
  | false =>
    rw [hl] at h1
    rw [if_neg Bool.false_ne_true]
    (repeat' ((conv => whnf); first | refine CondVC.t ?_ | refine CondVC.f ?_ | refine CondVC.dec (fun h => ?_) (fun h => ?_) | refine CondVC.ndec (fun h => ?_) (fun h => ?_) | refine CondVC.mk (fun h => ?_) (fun h => ?_) | refine ArVC.i64 (by first | omega | (simp only; omega)) ?_ | refine SideVC.mk (by first | omega | decide | (simp only; omega) | (simp [slS]; done) | (simp [slS]; omega) | (simp only [byteE_len, mvE_len, strE_len, intE_len, esC_len, List.length_cons, List.length_nil, List.length_append, List.length_replicate, List.length_set, Int.toNat_natCast, and_true] at *; omega)) ?_ | refine LoopN.go ?_ | exact trivial | refine AltVC.mk ?_ ?_ | refine HeldVC.mk rfl ?_ | refine CallVC.pure h1 rfl ?_ | refine OpVC.more tt_ok ?_ | refine RestVC.ext tt_ok ?_)); all_goals (conv => whnf)
    all_goals exact RetVC.res rfl rfl
theorem lawLongestGame_spec (w : Tx) (hw : w.length ≤ 9223372036854775807) (t : Bool) : Spec Tryd.prog 7 [.c (.str w), vb t] [] (isRes [vb true] []) := by
  refine Spec.of_wpx tt_ok Tryd.func7 (by kernel_rfl) rfl ?_
  (repeat' ((conv => whnf); first | refine CondVC.t ?_ | refine CondVC.f ?_ | refine CondVC.dec (fun h => ?_) (fun h => ?_) | refine CondVC.ndec (fun h => ?_) (fun h => ?_) | refine CondVC.mk (fun h => ?_) (fun h => ?_) | refine ArVC.i64 (by first | omega | (simp only; omega)) ?_ | refine SideVC.mk (by first | omega | decide | (simp only; omega) | (simp [slS]; done) | (simp [slS]; omega) | (simp only [byteE_len, mvE_len, strE_len, intE_len, esC_len, List.length_cons, List.length_nil, List.length_append, List.length_replicate, List.length_set, Int.toNat_natCast, and_true] at *; omega)) ?_ | refine LoopN.go ?_ | exact trivial | refine AltVC.mk ?_ ?_ | refine HeldVC.mk rfl ?_ | refine CallVC.pure (specLongestGame_spec w t (by omega)) rfl ?_ | refine CallVC.pure (implLongestGame_spec w t (by omega)) rfl ?_ | refine OpVC.more tt_ok ?_ | refine RestVC.ext tt_ok ?_)); all_goals (conv => whnf)
  all_goals first | exact RetVC.res rfl rfl | (exfalso; simp_all; done)
theorem specShortestGame_spec (w : Tx) (t : Bool) (hw : w.length ≤ 1048576) : Spec Tryd.prog 23 [.c (.str w), vb t] [] (isRes [i64 (gmAsk w t).short, vb (lineOf w 10)] []) := by
  have h1 := gaFew_spec w hw
  unfold gmAsk
  refine Spec.of_wpx tt_ok Tryd.func23 (by kernel_rfl) rfl ?_
  cases hl : lineOf w 10 with
  | true =>
    rw [hl] at h1
    rw [if_pos rfl]
    have hok := line_ok hl
    have hwl : w.length ≤ 10 := by have := line_len hl; omega
    have h2 := len_spec (wayF w + 1) w t (by omega) hok hwl ([], [], [], []) okLn_nil
    unfold lnM lnR at h2
    have h2 := Spec.renE [(1000, 12), (1001, 2001), (1002, 2002), (1003, 2003), (1004, 2004), (1011, 2011), (1012, 2012), (1013, 2013), (1014, 2014)] [(12, 1000), (2001, 1001), (2002, 1002), (2003, 1003), (2004, 1004), (2011, 1011), (2012, 1012), (2013, 1013), (2014, 1014)] h2 (fun _ => rfl) (fun _ => rfl) rfl
    have hgt := fun x i (h1 : okLn x) h2 => okLn_get (x := x) (i := i) h1 (one_okLs hok hwl) (t := t) h2
    generalize gamF w t = gm at *
    generalize keyF t [w] = ku at *
    (repeat' ((conv => whnf); first | refine CondVC.t ?_ | refine CondVC.f ?_ | refine CondVC.dec (fun h => ?_) (fun h => ?_) | refine CondVC.ndec (fun h => ?_) (fun h => ?_) | refine CondVC.mk (fun h => ?_) (fun h => ?_) | refine ArVC.i64 (by first | omega | (simp only; omega)) ?_ | refine SideVC.mk (by first | omega | decide | (simp only; omega) | (simp [slS]; done) | (simp [slS]; omega) | (simp only [byteE_len, mvE_len, strE_len, intE_len, esC_len, List.length_cons, List.length_nil, List.length_append, List.length_replicate, List.length_set, Int.toNat_natCast, and_true] at *; omega)) ?_ | refine LoopN.go ?_ | exact trivial | refine AltVC.mk ?_ ?_ | refine HeldVC.mk rfl ?_ | refine CallVC.pure h1 rfl ?_ | (refine CallVC.nil 2001 9 1 [.c (.ptr 12 0), .c (.str w), vb t] [(12, .box 60 [.sl 2001, .val (.slice none 0 0), .val (.slice none 0 0), .val (.slice none 0 0)])] rfl rfl rfl ?_; refine CallVC.nil 2002 3 1 [.c (.ptr 12 0), .c (.str w), vb t] [(2001, .sl 9 1 []), (12, .box 60 [.sl 2001, .sl 2002, .val (.slice none 0 0), .val (.slice none 0 0)])] rfl rfl rfl ?_; refine CallVC.nil 2003 3 1 [.c (.ptr 12 0), .c (.str w), vb t] [(2002, .sl 3 1 []), (2001, .sl 9 1 []), (12, .box 60 [.sl 2001, .sl 2002, .sl 2003, .val (.slice none 0 0)])] rfl rfl rfl ?_; refine CallVC.nil 2004 3 1 [.c (.ptr 12 0), .c (.str w), vb t] [(2003, .sl 3 1 []), (2002, .sl 3 1 []), (2001, .sl 9 1 []), (12, .box 60 [.sl 2001, .sl 2002, .sl 2003, .sl 2004])] rfl rfl rfl ?_; refine CallVC.ex [12, 2001, 2002, 2003, 2004] rfl h2 ?_; rintro ⟨x', i⟩ hx'; refine ⟨rfl, ?_⟩; have a1 : okLn x' := hx'.1; have a3 : x'.1[i]? = some ku := hx'.2.2; obtain ⟨hi, v1, v2, v3⟩ := hgt x' i a1 a3; have w1 : (intE x'.2.2.1)[(i : Int).toNat]? = some [.int .i64 gm.short] := (by rw [Int.toNat_natCast]; unfold intE; rw [List.getElem?_map, v2]; rfl); have q1 := intE_len x'.2.1; have q2 := intE_len x'.2.2.1; have q3 := intE_len x'.2.2.2; have q0 := a1.1; have hfew := okLn_few a1) | refine LoadVC.mk _ w1 ?_ | refine SideVC.mk (by simp only [q1, q2, q3]; omega) ?_ | refine OpVC.more tt_ok ?_ | refine RestVC.ext tt_ok ?_)); all_goals (conv => whnf)
    all_goals first
      | (exfalso; omega)
      | exact RetVC.res rfl rfl
  | false =>
    rw [hl] at h1
    rw [if_neg Bool.false_ne_true]
    (repeat' ((conv => whnf); first | refine CondVC.t ?_ | refine CondVC.f ?_ | refine CondVC.dec (fun h => ?_) (fun h => ?_) | refine CondVC.ndec (fun h => ?_) (fun h => ?_) | refine CondVC.mk (fun h => ?_) (fun h => ?_) | refine ArVC.i64 (by first | omega | (simp only; omega)) ?_ | refine SideVC.mk (by first | omega | decide | (simp only; omega) | (simp [slS]; done) | (simp [slS]; omega) | (simp only [byteE_len, mvE_len, strE_len, intE_len, esC_len, List.length_cons, List.length_nil, List.length_append, List.length_replicate, List.length_set, Int.toNat_natCast, and_true] at *; omega)) ?_ | refine LoopN.go ?_ | exact trivial | refine AltVC.mk ?_ ?_ | refine HeldVC.mk rfl ?_ | refine CallVC.pure h1 rfl ?_ | refine OpVC.more tt_ok ?_ | refine RestVC.ext tt_ok ?_)); all_goals (conv => whnf)
    all_goals exact RetVC.res rfl rfl
theorem lawShortestGame_spec (w : Tx) (hw : w.length ≤ 9223372036854775807) (t : Bool) : Spec Tryd.prog 8 [.c (.str w), vb t] [] (isRes [vb true] []) := by
  refine Spec.of_wpx tt_ok Tryd.func8 (by kernel_rfl) rfl ?_
  (repeat' ((conv => whnf); first | refine CondVC.t ?_ | refine CondVC.f ?_ | refine CondVC.dec (fun h => ?_) (fun h => ?_) | refine CondVC.ndec (fun h => ?_) (fun h => ?_) | refine CondVC.mk (fun h => ?_) (fun h => ?_) | refine ArVC.i64 (by first | omega | (simp only; omega)) ?_ | refine SideVC.mk (by first | omega | decide | (simp only; omega) | (simp [slS]; done) | (simp [slS]; omega) | (simp only [byteE_len, mvE_len, strE_len, intE_len, esC_len, List.length_cons, List.length_nil, List.length_append, List.length_replicate, List.length_set, Int.toNat_natCast, and_true] at *; omega)) ?_ | refine LoopN.go ?_ | exact trivial | refine AltVC.mk ?_ ?_ | refine HeldVC.mk rfl ?_ | refine CallVC.pure (specShortestGame_spec w t (by omega)) rfl ?_ | refine CallVC.pure (implShortestGame_spec w t (by omega)) rfl ?_ | refine OpVC.more tt_ok ?_ | refine RestVC.ext tt_ok ?_)); all_goals (conv => whnf)
  all_goals first | exact RetVC.res rfl rfl | (exfalso; simp_all; done)
theorem specCountGames_spec (w : Tx) (t : Bool) (hw : w.length ≤ 1048576) : Spec Tryd.prog 25 [.c (.str w), vb t] [] (isRes [i64 ((gmAsk w t).count : Int), vb (lineOf w 10)] []) := by
  have h1 := gaFew_spec w hw
  unfold gmAsk
  refine Spec.of_wpx tt_ok Tryd.func25 (by kernel_rfl) rfl ?_
  cases hl : lineOf w 10 with
  | true =>
    rw [hl] at h1
    rw [if_pos rfl]
    have hok := line_ok hl
    have hwl : w.length ≤ 10 := by have := line_len hl; omega
    have h2 := len_spec (wayF w + 1) w t (by omega) hok hwl ([], [], [], []) okLn_nil
    unfold lnM lnR at h2
    have h2 := Spec.renE [(1000, 12), (1001, 2001), (1002, 2002), (1003, 2003), (1004, 2004), (1011, 2011), (1012, 2012), (1013, 2013), (1014, 2014)] [(12, 1000), (2001, 1001), (2002, 1002), (2003, 1003), (2004, 1004), (2011, 1011), (2012, 1012), (2013, 1013), (2014, 1014)] h2 (fun _ => rfl) (fun _ => rfl) rfl
    have hgt := fun x i (h1 : okLn x) h2 => okLn_get (x := x) (i := i) h1 (one_okLs hok hwl) (t := t) h2
    generalize gamF w t = gm at *
    generalize keyF t [w] = ku at *
    (repeat' ((conv => whnf); first | refine CondVC.t ?_ | refine CondVC.f ?_ | refine CondVC.dec (fun h => ?_) (fun h => ?_) | refine CondVC.ndec (fun h => ?_) (fun h => ?_) | refine CondVC.mk (fun h => ?_) (fun h => ?_) | refine ArVC.i64 (by first | omega | (simp only; omega)) ?_ | refine SideVC.mk (by first | omega | decide | (simp only; omega) | (simp [slS]; done) | (simp [slS]; omega) | (simp only [byteE_len, mvE_len, strE_len, intE_len, esC_len, List.length_cons, List.length_nil, List.length_append, List.length_replicate, List.length_set, Int.toNat_natCast, and_true] at *; omega)) ?_ | refine LoopN.go ?_ | exact trivial | refine AltVC.mk ?_ ?_ | refine HeldVC.mk rfl ?_ | refine CallVC.pure h1 rfl ?_ | (refine CallVC.nil 2001 9 1 [.c (.ptr 12 0), .c (.str w), vb t] [(12, .box 60 [.sl 2001, .val (.slice none 0 0), .val (.slice none 0 0), .val (.slice none 0 0)])] rfl rfl rfl ?_; refine CallVC.nil 2002 3 1 [.c (.ptr 12 0), .c (.str w), vb t] [(2001, .sl 9 1 []), (12, .box 60 [.sl 2001, .sl 2002, .val (.slice none 0 0), .val (.slice none 0 0)])] rfl rfl rfl ?_; refine CallVC.nil 2003 3 1 [.c (.ptr 12 0), .c (.str w), vb t] [(2002, .sl 3 1 []), (2001, .sl 9 1 []), (12, .box 60 [.sl 2001, .sl 2002, .sl 2003, .val (.slice none 0 0)])] rfl rfl rfl ?_; refine CallVC.nil 2004 3 1 [.c (.ptr 12 0), .c (.str w), vb t] [(2003, .sl 3 1 []), (2002, .sl 3 1 []), (2001, .sl 9 1 []), (12, .box 60 [.sl 2001, .sl 2002, .sl 2003, .sl 2004])] rfl rfl rfl ?_; refine CallVC.ex [12, 2001, 2002, 2003, 2004] rfl h2 ?_; rintro ⟨x', i⟩ hx'; refine ⟨rfl, ?_⟩; have a1 : okLn x' := hx'.1; have a3 : x'.1[i]? = some ku := hx'.2.2; obtain ⟨hi, v1, v2, v3⟩ := hgt x' i a1 a3; have w1 : (intE x'.2.2.2)[(i : Int).toNat]? = some [.int .i64 (gm.count : Int)] := (by rw [Int.toNat_natCast]; unfold intE; rw [List.getElem?_map, v3]; rfl); have q1 := intE_len x'.2.1; have q2 := intE_len x'.2.2.1; have q3 := intE_len x'.2.2.2; have q0 := a1.1; have hfew := okLn_few a1) | refine LoadVC.mk _ w1 ?_ | refine SideVC.mk (by simp only [q1, q2, q3]; omega) ?_ | refine OpVC.more tt_ok ?_ | refine RestVC.ext tt_ok ?_)); all_goals (conv => whnf)
    all_goals first
      | (exfalso; omega)
      | exact RetVC.res rfl rfl
  | false =>
    rw [hl] at h1
    rw [if_neg Bool.false_ne_true]
    (repeat' ((conv => whnf); first | refine CondVC.t ?_ | refine CondVC.f ?_ | refine CondVC.dec (fun h => ?_) (fun h => ?_) | refine CondVC.ndec (fun h => ?_) (fun h => ?_) | refine CondVC.mk (fun h => ?_) (fun h => ?_) | refine ArVC.i64 (by first | omega | (simp only; omega)) ?_ | refine SideVC.mk (by first | omega | decide | (simp only; omega) | (simp [slS]; done) | (simp [slS]; omega) | (simp only [byteE_len, mvE_len, strE_len, intE_len, esC_len, List.length_cons, List.length_nil, List.length_append, List.length_replicate, List.length_set, Int.toNat_natCast, and_true] at *; omega)) ?_ | refine LoopN.go ?_ | exact trivial | refine AltVC.mk ?_ ?_ | refine HeldVC.mk rfl ?_ | refine CallVC.pure h1 rfl ?_ | refine OpVC.more tt_ok ?_ | refine RestVC.ext tt_ok ?_)); all_goals (conv => whnf)
    all_goals exact RetVC.res rfl rfl
theorem lawCountGames_spec (w : Tx) (hw : w.length ≤ 9223372036854775807) (t : Bool) : Spec Tryd.prog 9 [.c (.str w), vb t] [] (isRes [vb true] []) := by
  refine Spec.of_wpx tt_ok Tryd.func9 (by kernel_rfl) rfl ?_
  (repeat' ((conv => whnf); first | refine CondVC.t ?_ | refine CondVC.f ?_ | refine CondVC.dec (fun h => ?_) (fun h => ?_) | refine CondVC.ndec (fun h => ?_) (fun h => ?_) | refine CondVC.mk (fun h => ?_) (fun h => ?_) | refine ArVC.i64 (by first | omega | (simp only; omega)) ?_ | refine SideVC.mk (by first | omega | decide | (simp only; omega) | (simp [slS]; done) | (simp [slS]; omega) | (simp only [byteE_len, mvE_len, strE_len, intE_len, esC_len, List.length_cons, List.length_nil, List.length_append, List.length_replicate, List.length_set, Int.toNat_natCast, and_true] at *; omega)) ?_ | refine LoopN.go ?_ | exact trivial | refine AltVC.mk ?_ ?_ | refine HeldVC.mk rfl ?_ | refine CallVC.pure (specCountGames_spec w t (by omega)) rfl ?_ | refine CallVC.pure (implCountGames_spec w t (by omega)) rfl ?_ | refine OpVC.more tt_ok ?_ | refine RestVC.ext tt_ok ?_)); all_goals (conv => whnf)
  all_goals first | exact RetVC.res rfl rfl | (exfalso; simp_all; done)
end Go.Proofs.YtblihaicbhdbdaaDoor.X
