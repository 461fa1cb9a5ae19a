/- Best moves, moves of a game, plays of a game. No condition beyond each statement's. -/
import Derived.Test.YtjpabjmcooiflaaDoorCompare
import Derived.Test.YtjpabjmcooiflaaDoorCut
namespace Go.Proofs.YtjpabjmcooiflaaDoor.X
open Go.Proofs
set_option maxRecDepth 100000
set_option linter.unusedVariables false
set_option linter.unusedSimpArgs false

def keepF (l : List Mv) (p : Mv → Bool) (j : Nat) : List Mv := (l.take j).filter fun m => !p m
theorem keepF_succ {l : List Mv} {p : Mv → Bool} {j : Nat} (h : j < l.length) : keepF l p (j + 1) = keepF l p j ++ if p l[j] then [] else [l[j]] := by
  unfold keepF
  rw [List.take_succ_eq_append_getElem h, List.filter_append]
  congr 1
  cases hp : p l[j] <;> simp [hp]
theorem keepF_len (l : List Mv) (p : Mv → Bool) (j : Nat) : (keepF l p j).length ≤ j := by
  unfold keepF
  exact Nat.le_trans (List.length_filter_le _ _) (by simp; omega)
theorem firstP_neg {l : List Mv} {p : Mv → Bool} (h : firstP l p = -1) : l.filter (fun m => !p m) = l := by
  rw [List.filter_eq_self]
  intro m hm
  have h1 := firstP_any l p
  rw [h] at h1
  have h2 : l.any p = false := by rw [← h1]; rfl
  rw [List.any_eq_false] at h2
  have := h2 m hm
  simpa using this
theorem firstP_pos {l : List Mv} {p : Mv → Bool} {i : Nat} (h : firstP l p = i) : i < l.length ∧ keepF l p (i + 1) = l.take i := by
  have hb := firstP_bound l p
  have hi : i < l.length := by omega
  unfold firstP at h
  cases hf : l.findIdx? p with
  | none => rw [hf] at h; simp only at h; omega
  | some k =>
    rw [hf] at h
    simp only at h
    have : k = i := by omega
    subst this
    rw [List.findIdx?_eq_some_iff_getElem] at hf
    obtain ⟨h1, h2, h3⟩ := hf
    refine ⟨hi, ?_⟩
    rw [keepF_succ hi, h2]
    simp only [if_true, List.append_nil]
    unfold keepF
    rw [List.filter_eq_self]
    intro m hm
    obtain ⟨j, hj, rfl⟩ := List.getElem_of_mem hm
    rw [List.length_take] at hj
    have := h3 j (by omega)
    rw [List.getElem_take]
    simpa using this

theorem RetVC.cutE {D0 : List Nat} {vals : List V} {mem rest : Mem} {post : List V → Mem → Prop} {T : TypeId} {es es' : List (List C)} (z r sz n : Nat) (vs : List V) (hv : vals = vs.map (V.uncut z r sz n))
    (hm : pickL mem [r] = some ([(r, .sl T sz es)], rest)) (hn : n ≤ es.length) (hfr : freshN D0 [(0, .tup vals)] rest z = true) (he : es.take n = es') (h : RetVC D0 vs ((z, .sl T sz es') :: rest) post) : RetVC D0 vals mem post :=
  RetVC.cut z r sz n vs hv hm hn hfr (he ▸ h)

theorem deleteFunc_spec (f : FuncId) (s : Tx) (t : Bool) (l : List Mv) (p : Mv → Bool) (hl : l.length ≤ 1000000) (H : ∀ m ∈ l, MemoFn f s t m (p m)) (es : List (C × V)) (hes : okWin es) :
    Spec Tryd.prog 89 [.c (.sl 1001), .c (.fn f [1003, 1004, 1005])] ((1001, .sl 47 2 (mvE l)) :: winM s t es)
      (exRes okWin (fun _ => [.c (.sl 1011)]) (fun es' => (1011, .sl 47 2 (mvE (l.filter fun m => !p m))) :: winM s t es')) := by
  have h1 := indexFunc_spec f s t l p hl H es hes
  have hbd := firstP_bound l p
  have hneg := @firstP_neg l p
  have hpos : ∀ i : Nat, firstP l p = i → _ := fun i h => firstP_pos h
  have hfull : keepF l p l.length = l.filter fun m => !p m := by unfold keepF; rw [List.take_length]
  unfold MemoFn at H
  unfold winM at *
  generalize firstP l p = q at *
  refine Spec.of_wpx tt_ok Tryd.func89 (by kernel_rfl) rfl ?_
  by_cases hq : q = -1
  · have e := hneg hq
    subst hq
    rw [e]
    (repeat' ((conv => whnf); first | refine CondVC.t ?_ | refine CondVC.f ?_ | refine CondVC.dec (fun h => ?_) (fun h => ?_) | refine CondVC.ndec (fun h => ?_) (fun h => ?_) | refine CondVC.mk (fun h => ?_) (fun h => ?_) | refine ArVC.i64 (by first | omega | (simp only; omega)) ?_ | refine SideVC.mk (by first | omega | decide | (simp only; omega) | (simp [slS]; done) | (simp [slS]; omega) | (simp only [byteE_len, mvE_len, strE_len, intE_len, esC_len, List.length_cons, List.length_nil, List.length_append, List.length_replicate, List.length_set, Int.toNat_natCast, and_true] at *; omega)) ?_ | refine LoopN.go ?_ | exact trivial | refine AltVC.mk ?_ ?_ | refine HeldVC.mk rfl ?_ | (refine CallVC.ex [1001, 1003, 1004, 1005, 1000] rfl h1 ?_; intro es1 hes1; refine ⟨rfl, ?_⟩) | refine OpVC.more tt_ok ?_ | refine RestVC.ext tt_ok ?_)); all_goals (conv => whnf)
    all_goals first
      | exact RetVC.ren [(1011, 1001)] [.c (.sl 1011)] [(1011, .sl 47 2 (mvE l)), (1003, .box 65 [.mp 1000]), (1004, .box 9 [.str s]), (1005, .box 4 [.bool t]), (1000, .ext (.mp none es1))] rfl rfl rfl ⟨es1, hes1, rfl, rfl⟩
      | (exfalso; omega)
  · obtain ⟨i, rfl⟩ := Int.eq_ofNat_of_zero_le (show 0 ≤ q by omega)
    obtain ⟨hi, hk0⟩ := hpos i rfl
    (repeat' ((conv => whnf); first | refine CondVC.t ?_ | refine CondVC.f ?_ | refine CondVC.dec (fun h => ?_) (fun h => ?_) | refine CondVC.ndec (fun h => ?_) (fun h => ?_) | refine CondVC.mk (fun h => ?_) (fun h => ?_) | refine ArVC.i64 (by first | omega | (simp only; omega)) ?_ | refine SideVC.mk (by first | omega | decide | (simp only; omega) | (simp [slS]; done) | (simp [slS]; omega) | (simp only [byteE_len, mvE_len, strE_len, intE_len, esC_len, List.length_cons, List.length_nil, List.length_append, List.length_replicate, List.length_set, Int.toNat_natCast, and_true] at *; omega)) ?_ | refine LoopN.go ?_ | exact trivial | refine AltVC.mk ?_ ?_ | refine HeldVC.mk rfl ?_ | (refine CallVC.ex [1001, 1003, 1004, 1005, 1000] rfl h1 ?_; intro es1 hes1; refine ⟨rfl, ?_⟩) | refine OpVC.more tt_ok ?_ | refine RestVC.ext tt_ok ?_)); all_goals (conv => whnf)
    refine LoopVC.mk (G := Nat × Nat × List Mv × List (C × V)) (fun g => ⟨[(6, .v (i64 g.1)), (5, .v (i64 g.2.1)), (1, .v (.c (.fn f [1003, 1004, 1005]))), (0, .v (.c (.sl 1001)))],
        [(1001, .sl 47 2 (mvE g.2.2.1)), (1003, .box 65 [.mp 1000]), (1004, .box 9 [.str s]), (1005, .box 4 [.bool t]), (1000, .ext (.mp none g.2.2.2))]⟩)
      (fun g => g.1 ≤ l.length ∧ g.2.2.1.length = l.length ∧ g.2.2.1.drop g.1 = l.drop g.1 ∧ g.2.2.1.take (keepF l p g.1).length = keepF l p g.1 ∧ okWin g.2.2.2 ∧ g.2.1 = (keepF l p g.1).length) (fun g => l.length - g.1) (i + 1, i, l, es1)
      ⟨by omega, rfl, rfl, by rw [hk0, List.length_take, Nat.min_eq_left (by omega)], hes1, by rw [hk0, List.length_take, Nat.min_eq_left (by omega)]⟩ (Sub.mk [] _ ⟨rfl, rfl, rfl, rfl, trivial⟩ rfl rfl) ?_
    rintro ⟨j, n, R, es⟩ ⟨hj, hR, hdrop, htake, hes, hn⟩
    simp only at hj hR hdrop htake hes hn
    have hmR := mvE_len R
    have hkl := keepF_len l p j
    by_cases hlt : j < l.length
    · have hRj : R[j]'(by omega) = l[j] := by
        have h2 : (R.drop j)[0]? = (l.drop j)[0]? := by rw [hdrop]
        rw [List.getElem?_drop, List.getElem?_drop, Nat.add_zero, List.getElem?_eq_getElem hlt, List.getElem?_eq_getElem (by omega)] at h2
        exact Option.some.inj h2
      have g1 : (mvE R)[(j : Int).toNat]? = some (mvC l[j]) := by rw [Int.toNat_natCast, mvE_get (by omega), hRj]
      have hr := H _ (List.getElem_mem hlt) es hes
      have hs := keepF_succ (p := p) hlt
      have hd2 : ∀ R' : List Mv, R'.drop j = l.drop j → R'.drop (j + 1) = l.drop (j + 1) := fun R' h => by
        have e1 : ∀ x : List Mv, x.drop (j + 1) = (x.drop j).drop 1 := fun x => by rw [List.drop_drop]
        rw [e1, e1, h]
      cases hp : p l[j] with
      | true =>
        rw [hp] at hr hs
        simp only [if_true, List.append_nil] at hs
        (repeat' ((conv => whnf); first | refine CondVC.t ?_ | refine CondVC.f ?_ | refine CondVC.dec (fun h => ?_) (fun h => ?_) | refine CondVC.ndec (fun h => ?_) (fun h => ?_) | refine CondVC.mk (fun h => ?_) (fun h => ?_) | refine ArVC.i64 (by first | omega | (simp only; omega)) ?_ | refine SideVC.mk (by first | omega | decide | (simp only; omega) | (simp [slS]; done) | (simp [slS]; omega) | (simp only [byteE_len, mvE_len, strE_len, intE_len, esC_len, List.length_cons, List.length_nil, List.length_append, List.length_replicate, List.length_set, Int.toNat_natCast, and_true] at *; omega)) ?_ | refine LoopN.go ?_ | exact trivial | refine AltVC.mk ?_ ?_ | refine HeldVC.mk rfl ?_ | refine LoadVC.mk _ g1 ?_ | refine SideVC.mk (by rw [hmR]; omega) ?_ | (refine CallVC.ex [1003, 1004, 1005, 1000] rfl hr ?_; intro es' hes'; refine ⟨rfl, ?_⟩) | refine OpVC.more tt_ok ?_ | refine RestVC.ext tt_ok ?_)); all_goals (conv => whnf)
        all_goals first
          | (exfalso; simp only [mvE_len] at *; omega)
          | exact ⟨(j + 1, n, R, es'), ⟨by omega, hR, hd2 R hdrop, by simp only [hs]; exact htake, hes', by rw [hs]; exact hn⟩, by simp only; omega, Sub.mk [] _ ⟨rfl, rfl, rfl, rfl, trivial⟩ rfl rfl⟩
      | false =>
        rw [hp] at hr hs
        simp only [Bool.false_eq_true, if_false] at hs
        have hkR : n < R.length := by omega
        have g2 : (mvE R)[(n : Int).toNat]? = some (mvC (R[n]'hkR)) := by rw [Int.toNat_natCast]; exact mvE_get hkR
        have hset : (mvE R).set (n : Int).toNat (mvC l[j]) = mvE (R.set n l[j]) := by rw [Int.toNat_natCast]; simp [mvE]
        have hkl2 : (keepF l p (j + 1)).length = (keepF l p j).length + 1 := by rw [hs]; simp
        rw [← hn] at hkl2 htake
        have ht2 : (R.set n l[j]).take (n + 1) = keepF l p j ++ [l[j]] := by
          rw [List.take_succ_eq_append_getElem (by simpa using hkR), List.getElem_set_self, List.take_set_of_le (Nat.le_refl _), htake]
        have hd3 : (R.set n l[j]).drop (j + 1) = l.drop (j + 1) := by
          rw [List.drop_set_of_lt (by omega)]
          exact hd2 R hdrop
        (repeat' ((conv => whnf); first | refine CondVC.t ?_ | refine CondVC.f ?_ | refine CondVC.dec (fun h => ?_) (fun h => ?_) | refine CondVC.ndec (fun h => ?_) (fun h => ?_) | refine CondVC.mk (fun h => ?_) (fun h => ?_) | refine ArVC.i64 (by first | omega | (simp only; omega)) ?_ | refine SideVC.mk (by first | omega | decide | (simp only; omega) | (simp [slS]; done) | (simp [slS]; omega) | (simp only [byteE_len, mvE_len, strE_len, intE_len, esC_len, List.length_cons, List.length_nil, List.length_append, List.length_replicate, List.length_set, Int.toNat_natCast, and_true] at *; omega)) ?_ | refine LoopN.go ?_ | exact trivial | refine AltVC.mk ?_ ?_ | refine HeldVC.mk rfl ?_ | refine LoadVC.mk _ g1 ?_ | refine LoadVC.mk _ g2 ?_ | refine SideVC.mk (by rw [hmR]; omega) ?_ | (refine CallVC.ex [1003, 1004, 1005, 1000] rfl hr ?_; intro es' hes'; refine ⟨rfl, ?_⟩) | refine OpVC.more tt_ok ?_ | refine RestVC.ext tt_ok ?_)); all_goals (conv => whnf)
        all_goals first
          | (exfalso; simp only [mvE_len] at *; omega)
          | exact ⟨(j + 1, n + 1, R.set n l[j], es'), ⟨by omega, by simpa using hR, hd3, by simp only [hkl2]; rw [ht2, hs], hes', hkl2.symm⟩, by simp only; omega, Sub.mk [] _ ⟨rfl, rfl, rfl, rfl, trivial⟩ (by rw [← hset]; rfl) rfl⟩
    · have ej : j = l.length := by omega
      subst ej
      rw [hfull] at hkl htake hn
      subst hn
      generalize l.filter (fun m => !p m) = kp at *
      have hfin : ((mvE R).take ((kp.length : Int).toNat) ++ List.replicate (((mvE R).length : Int).toNat - (kp.length : Int).toNat) [C.int IntKind.i64 0, C.int IntKind.i64 0]).take ((kp.length : Int).toNat - (0 : Int).toNat) = mvE kp := by
        have e1 : (mvE R).take kp.length = mvE kp := by
          rw [← htake]; unfold mvE; rw [List.map_take, htake]
        have e2 : ((kp.length : Int).toNat - (0 : Int).toNat) = kp.length := by simp
        rw [e2, Int.toNat_natCast, e1, List.take_left' (mvE_len kp)]
      (repeat' ((conv => whnf); first | refine CondVC.t ?_ | refine CondVC.f ?_ | refine CondVC.dec (fun h => ?_) (fun h => ?_) | refine CondVC.ndec (fun h => ?_) (fun h => ?_) | refine CondVC.mk (fun h => ?_) (fun h => ?_) | refine ArVC.i64 (by first | omega | (simp only; omega)) ?_ | refine SideVC.mk (by first | omega | decide | (simp only; omega) | (simp [slS]; done) | (simp [slS]; omega) | (simp only [byteE_len, mvE_len, strE_len, intE_len, esC_len, List.length_cons, List.length_nil, List.length_append, List.length_replicate, List.length_set, Int.toNat_natCast, and_true] at *; omega)) ?_ | refine LoopN.go ?_ | exact trivial | refine AltVC.mk ?_ ?_ | refine HeldVC.mk rfl ?_ | refine SideVC.mk (by rw [hmR]; omega) ?_ | refine RestVC2.clear tt_ok rfl rfl rfl rfl (by simp only [mvE_len, Int.toNat_natCast] at *; omega) ?_ | refine OpVC.more tt_ok ?_ | refine RestVC.ext tt_ok ?_)); all_goals (conv => whnf)
      all_goals first
        | (exfalso; simp only [mvE_len] at *; omega)
        | exact RetVC.cutE 1011 1001 2 _ [.c (.sl 1011)] rfl rfl (by simp [mvE_len]; omega) rfl hfin (RetVC.mk rfl ⟨es, hes, rfl, rfl⟩)

/-! ### Best moves -/
def bestF (w : Tx) (t : Bool) : List Mv := (movesF w (kOf t)).filter fun m => !winF (madeF w m) (!t)
theorem bestF_len (w : Tx) (t : Bool) : (bestF w t).length ≤ w.length := Nat.le_trans (List.length_filter_le _ _) (movesF_len w (kOf t))
theorem bestF_mem {w : Tx} {t : Bool} {m : Mv} (h : m ∈ bestF w t) : m ∈ movesF w (kOf t) := (List.mem_filter.1 h).1

theorem best1_spec (s : Tx) (t : Bool) (m : Mv) (hm : m ∈ movesF s (kOf t)) (hs : s.length ≤ 1000) (ih : WinS (madeF s m) (!t)) : MemoFn 90 s t m (winF (madeF s m) (!t)) := by
  intro es hes
  obtain ⟨i1, i2, i3⟩ := movesF_in hm
  have h1 := made_spec s m i1 i2 (by omega)
  have h2 := ih es hes
  generalize madeF s m = s' at *
  generalize winF s' (!t) = q at *
  unfold winM at *
  refine Spec.of_wpx tt_ok Tryd.func90 (by kernel_rfl) rfl ?_
  (repeat' ((conv => whnf); first | refine CondVC.t ?_ | refine CondVC.f ?_ | refine CondVC.dec (fun h => ?_) (fun h => ?_) | refine CondVC.ndec (fun h => ?_) (fun h => ?_) | refine CondVC.mk (fun h => ?_) (fun h => ?_) | refine ArVC.i64 (by first | omega | (simp only; omega)) ?_ | refine SideVC.mk (by first | omega | decide | (simp only; omega) | (simp [slS]; done) | (simp [slS]; omega) | (simp only [byteE_len, mvE_len, strE_len, intE_len, esC_len, List.length_cons, List.length_nil, List.length_append, List.length_replicate, List.length_set, Int.toNat_natCast, and_true] at *; omega)) ?_ | refine LoopN.go ?_ | exact trivial | refine AltVC.mk ?_ ?_ | refine HeldVC.mk rfl ?_ | refine DrawVC.tree (id := 1) tt_ok [4, 1003, 1004, 1005] tr90_1 (by kernel_rfl) (by kernel_rfl) rfl ?_ | refine CallVC.pure h1 rfl ?_ | (refine CallVC.ex [1000] rfl h2 ?_; intro es' hes'; refine ⟨rfl, ?_⟩) | refine OpVC.more tt_ok ?_ | refine RestVC.ext tt_ok ?_)); all_goals (conv => whnf)
  all_goals exact RetVC.mk rfl ⟨es', hes', rfl, rfl⟩

theorem best_spec (w : Tx) (t : Bool) (hw : w.length ≤ 1000) (es : List (C × V)) (hes : okWin es) : Spec Tryd.prog 63 [.agg [.mp 1000], .c (.str w), vb t] [(1000, .ext (.mp none es))]
    (exRes okWin (fun _ => [.c (.sl 1011)]) (fun es' => [(1011, .sl 47 2 (mvE (bestF w t))), (1000, .ext (.mp none es'))])) := by
  have h1 := moves_spec w (kOf t) (by omega)
  have hll := movesF_len w (kOf t)
  have H : ∀ m ∈ movesF w (kOf t), MemoFn 90 w t m (winF (madeF w m) (!t)) := fun m hm =>
    best1_spec w t m hm hw (winS_all (madeF w m) (!t) (by rw [madeF_len]; exact hw))
  have h3 := deleteFunc_spec 90 w t (movesF w (kOf t)) (fun m => winF (madeF w m) (!t)) (by omega) H es hes
  have e : (movesF w (kOf t)).filter (fun m => !winF (madeF w m) (!t)) = bestF w t := rfl
  rw [e] at h3
  unfold winM at h3
  have h4 := Spec.renE [(1003, 3), (1004, 4), (1005, 5)] [(3, 1003), (4, 1004), (5, 1005)] h3 (fun _ => rfl) (fun _ => rfl) rfl
  have hko := kindOf_spec t
  generalize kOf t = kd at *
  generalize bestF w t = bl at *
  generalize movesF w kd = l at *
  refine Spec.of_wpx tt_ok Tryd.func63 (by kernel_rfl) rfl ?_
  (repeat' ((conv => whnf); first | refine CondVC.t ?_ | refine CondVC.f ?_ | refine CondVC.dec (fun h => ?_) (fun h => ?_) | refine CondVC.ndec (fun h => ?_) (fun h => ?_) | refine CondVC.mk (fun h => ?_) (fun h => ?_) | refine ArVC.i64 (by first | omega | (simp only; omega)) ?_ | refine SideVC.mk (by first | omega | decide | (simp only; omega) | (simp [slS]; done) | (simp [slS]; omega) | (simp only [byteE_len, mvE_len, strE_len, intE_len, esC_len, List.length_cons, List.length_nil, List.length_append, List.length_replicate, List.length_set, Int.toNat_natCast, and_true] at *; omega)) ?_ | refine LoopN.go ?_ | exact trivial | refine AltVC.mk ?_ ?_ | refine HeldVC.mk rfl ?_ | refine DrawVC.tree (id := 1) tt_ok [3, 4, 5] tr63_1 (by kernel_rfl) (by kernel_rfl) rfl ?_ | refine CallVC.pure hko rfl ?_ | refine CallVC.res [] rfl h1 rfl ?_ | (refine CallVC.ex [1001, 3, 4, 5, 1000] rfl h4 ?_; intro es' hes'; refine ⟨rfl, ?_⟩) | refine OpVC.more tt_ok ?_ | refine RestVC.ext tt_ok ?_)); all_goals (conv => whnf)
  all_goals exact RetVC.mk rfl ⟨es', hes', rfl, rfl⟩

def knB (x : Kn) : Mem := [(1000, .box 61 [.sl 1001, .sl 1002]), (1001, .sl 9 1 (strE x.1)), (1002, .sl 4 1 (boolE x.2))]
theorem gaBest_spec (w : Tx) (t : Bool) (hok : w.all okCh = true) (hw : w.length ≤ 10) (x0 : Kn) (hx0 : okKn x0) : Spec Tryd.prog 62 [.c (.ptr 1000 0), .c (.str w), vb t] (knB x0)
    (exRes okKn (fun _ => [.c (.sl 1021)]) (fun x => [(1021, .sl 47 2 (mvE (bestF w t))), (1000, .box 61 [.sl 1011, .sl 1012]), (1011, .sl 9 1 (strE x.1)), (1012, .sl 4 1 (boolE x.2))])) := by
  have h5 := liMoves_spec w t (!t) hok (by omega)
  rw [liMoves_eq hok, kOf_kinds] at h5
  have h5 := Spec.ren [(1001, 2001)] [(2001, 1001)] h5 rfl rfl rfl
  have hin : ∀ m ∈ movesF w (kOf t), _ := fun m hm => movesF_in hm
  have hll := movesF_len w (kOf t)
  have hmk : ∀ m ∈ movesF w (kOf t), _ := fun m hm => liMake_spec w m (hin m hm).1 (hin m hm).2.1 (hin m hm).2.2 (by omega)
  have hG : ∀ m ∈ movesF w (kOf t), GameS [madeF w m] (!t) := fun m hm => game_all _ _ ⟨fun v hv => by
      simp only [List.mem_singleton] at hv
      subst hv
      exact okCh_made hok (by have := (hin m hm).1; omega), by simp [sumF, madeF_len]; omega, by simp⟩
  have hend : keepF (movesF w (kOf t)) (fun m => winF (madeF w m) (!t)) (movesF w (kOf t)).length = bestF w t := by unfold keepF bestF; rw [List.take_length]
  have hsucc : ∀ k (h : k < (movesF w (kOf t)).length), _ := fun k h => keepF_succ (l := movesF w (kOf t)) (p := fun m => winF (madeF w m) (!t)) h
  have hkl := fun k => keepF_len (movesF w (kOf t)) (fun m => winF (madeF w m) (!t)) k
  have h0 : keepF (movesF w (kOf t)) (fun m => winF (madeF w m) (!t)) 0 = [] := rfl
  generalize keepF (movesF w (kOf t)) (fun m => winF (madeF w m) (!t)) = kf at *
  generalize bestF w t = bl at *
  generalize movesF w (kOf t) = l at *
  have hml := mvE_len l
  unfold knB
  refine Spec.of_wpx tt_ok Tryd.func62 (by kernel_rfl) rfl ?_
  (repeat' ((conv => whnf); first | refine CondVC.t ?_ | refine CondVC.f ?_ | refine CondVC.dec (fun h => ?_) (fun h => ?_) | refine CondVC.ndec (fun h => ?_) (fun h => ?_) | refine CondVC.mk (fun h => ?_) (fun h => ?_) | refine ArVC.i64 (by first | omega | (simp only; omega)) ?_ | refine SideVC.mk (by first | omega | decide | (simp only; omega) | (simp [slS]; done) | (simp [slS]; omega) | (simp only [byteE_len, mvE_len, strE_len, intE_len, esC_len, List.length_cons, List.length_nil, List.length_append, List.length_replicate, List.length_set, Int.toNat_natCast, and_true] at *; omega)) ?_ | refine LoopN.go ?_ | exact trivial | refine AltVC.mk ?_ ?_ | refine HeldVC.mk rfl ?_ | refine CallVC.res [] rfl h5 rfl ?_ | refine OpVC.more tt_ok ?_ | refine RestVC.ext tt_ok ?_)); all_goals (conv => whnf)
  refine LoopVC.mk (G := Nat × Kn) (fun g => ⟨[(16, .v (i64 g.1)), (15, .v (i64 l.length)), (14, .v (.c (.sl 2001))), (7, .v (.c (.sl 1021))), (2, .v (vb t)), (1, .v (.c (.str w))), (0, .v (.c (.ptr 1000 0)))],
      [(1021, .sl 47 2 (mvE (kf g.1))), (2001, .sl 47 2 (mvE l)), (1000, .box 61 [.sl 3001, .sl 3002]), (3001, .sl 9 1 (strE g.2.1)), (3002, .sl 4 1 (boolE g.2.2))]⟩)
    (fun g => g.1 ≤ l.length ∧ okKn g.2) (fun g => l.length - g.1) (0, x0) ⟨by omega, hx0⟩
    (Sub.trans (t := ⟨[(16, .v (i64 0)), (15, .v (i64 (mvE l).length)), (14, .v (.c (.sl 2001))), (7, .v (.c (.sl 1021))), (2, .v (vb t)), (1, .v (.c (.str w))), (0, .v (.c (.ptr 1000 0)))],
      [(1021, .sl 47 2 []), (2001, .sl 47 2 (mvE l)), (1000, .box 61 [.sl 1001, .sl 1002]), (1001, .sl 9 1 (strE x0.1)), (1002, .sl 4 1 (boolE x0.2))]⟩)
      (Sub.nil 1021 47 2 ⟨rfl, rfl, rfl, rfl, rfl, rfl, rfl, trivial⟩ rfl rfl)
      (Sub.mk [(3001, 1001), (3002, 1002)] [] ⟨rfl, by rw [hml]; rfl, rfl, rfl, rfl, rfl, rfl, trivial⟩ (by simp only [h0]; rfl) rfl)) ?_
  rintro ⟨k, x⟩ ⟨hk, hx⟩
  simp only at hk hx
  have hkk := hkl k
  by_cases hlt : k < l.length
  · have hmem := List.getElem_mem hlt
    have g1 : (mvE l)[(k : Int).toNat]? = some (mvC l[k]) := by rw [Int.toNat_natCast]; exact mvE_get hlt
    have h6 := hmk _ hmem
    have h8 := hG _ hmem x hx
    rw [joinF_one] at h8
    unfold knM knR at h8
    have h8 := Spec.renE [(1003, 24), (1001, 3001), (1002, 3002), (1011, 3011), (1012, 3012)] [(24, 1003), (3001, 1001), (3002, 1002), (3011, 1011), (3012, 1012)] h8 (fun _ => rfl) (fun _ => rfl) rfl
    have hs := hsucc k hlt
    cases hb : winF (madeF w l[k]) (!t) with
    | true =>
      rw [hb] at h8 hs
      simp only [if_true, List.append_nil] at hs
      generalize madeF w l[k] = w' at h6 h8
      (repeat' ((conv => whnf); first | refine CondVC.t ?_ | refine CondVC.f ?_ | refine CondVC.dec (fun h => ?_) (fun h => ?_) | refine CondVC.ndec (fun h => ?_) (fun h => ?_) | refine CondVC.mk (fun h => ?_) (fun h => ?_) | refine ArVC.i64 (by first | omega | (simp only; omega)) ?_ | refine SideVC.mk (by first | omega | decide | (simp only; omega) | (simp [slS]; done) | (simp [slS]; omega) | (simp only [byteE_len, mvE_len, strE_len, intE_len, esC_len, List.length_cons, List.length_nil, List.length_append, List.length_replicate, List.length_set, Int.toNat_natCast, and_true] at *; omega)) ?_ | refine LoopN.go ?_ | exact trivial | refine AltVC.mk ?_ ?_ | refine HeldVC.mk rfl ?_ | refine LoadVC.mk _ g1 ?_ | refine SideVC.mk (by rw [hml]; omega) ?_ | refine CallVC.pure h6 rfl ?_ | (refine CallVC.ex [1000, 3001, 3002, 24] rfl h8 ?_; intro x' hx'; refine ⟨rfl, ?_⟩) | refine OpVC.more tt_ok ?_ | refine RestVC.ext tt_ok ?_)); all_goals (conv => whnf)
      all_goals first
        | (exfalso; omega)
        | exact ⟨(k + 1, x'), ⟨by omega, hx'.1⟩, by simp only; omega, Sub.mk [(3001, 3011), (3002, 3012)] _ ⟨rfl, rfl, rfl, rfl, rfl, rfl, rfl, trivial⟩ (by simp only [hs]; rfl) rfl⟩
    | false =>
      rw [hb] at h8 hs
      simp only [Bool.false_eq_true, if_false] at hs
      have hm2 : mvE (kf (k + 1)) = mvE (kf k) ++ [mvC l[k]] := by rw [hs, mvE_append]; rfl
      generalize madeF w l[k] = w' at h6 h8
      (repeat' ((conv => whnf); first | refine CondVC.t ?_ | refine CondVC.f ?_ | refine CondVC.dec (fun h => ?_) (fun h => ?_) | refine CondVC.ndec (fun h => ?_) (fun h => ?_) | refine CondVC.mk (fun h => ?_) (fun h => ?_) | refine ArVC.i64 (by first | omega | (simp only; omega)) ?_ | refine SideVC.mk (by first | omega | decide | (simp only; omega) | (simp [slS]; done) | (simp [slS]; omega) | (simp only [byteE_len, mvE_len, strE_len, intE_len, esC_len, List.length_cons, List.length_nil, List.length_append, List.length_replicate, List.length_set, Int.toNat_natCast, and_true] at *; omega)) ?_ | refine LoopN.go ?_ | exact trivial | refine AltVC.mk ?_ ?_ | refine HeldVC.mk rfl ?_ | refine LoadVC.mk _ g1 ?_ | refine SideVC.mk (by rw [hml]; omega) ?_ | refine SideVC.mk (by simp only [mvE_len, List.length_cons, List.length_nil]; omega) ?_ | refine CallVC.pure h6 rfl ?_ | (refine CallVC.ex [1000, 3001, 3002, 24] rfl h8 ?_; intro x' hx'; refine ⟨rfl, ?_⟩) | refine OpVC.more tt_ok ?_ | refine RestVC.ext tt_ok ?_)); all_goals (conv => whnf)
      all_goals first
        | (exfalso; omega)
        | exact ⟨(k + 1, x'), ⟨by omega, hx'.1⟩, by simp only; omega, Sub.mk [(3001, 3011), (3002, 3012), (1021, 32)] _ ⟨rfl, rfl, rfl, rfl, rfl, rfl, rfl, trivial⟩ (by simp only [hm2]; rfl) rfl⟩
  · have ek : k = l.length := by omega
    subst ek
    rw [← hend]
    (repeat' ((conv => whnf); first | refine CondVC.t ?_ | refine CondVC.f ?_ | refine CondVC.dec (fun h => ?_) (fun h => ?_) | refine CondVC.ndec (fun h => ?_) (fun h => ?_) | refine CondVC.mk (fun h => ?_) (fun h => ?_) | refine ArVC.i64 (by first | omega | (simp only; omega)) ?_ | refine SideVC.mk (by first | omega | decide | (simp only; omega) | (simp [slS]; done) | (simp [slS]; omega) | (simp only [byteE_len, mvE_len, strE_len, intE_len, esC_len, List.length_cons, List.length_nil, List.length_append, List.length_replicate, List.length_set, Int.toNat_natCast, and_true] at *; omega)) ?_ | refine LoopN.go ?_ | exact trivial | refine AltVC.mk ?_ ?_ | refine HeldVC.mk rfl ?_ | refine OpVC.more tt_ok ?_ | refine RestVC.ext tt_ok ?_)); all_goals (conv => whnf)
    all_goals first
      | (exfalso; omega)
      | exact RetVC.ren [(1011, 3001), (1012, 3002)] [.c (.sl 1021)] [(1021, .sl 47 2 (mvE (kf l.length))), (1000, .box 61 [.sl 1011, .sl 1012]), (1011, .sl 9 1 (strE x.1)), (1012, .sl 4 1 (boolE x.2))] rfl rfl rfl ⟨x, hx, rfl, rfl⟩

def bestAskF (w : Tx) (t : Bool) : List Mv := if lineOf w 10 then bestF w t else []
theorem bestAskF_len (w : Tx) (t : Bool) : (bestAskF w t).length ≤ w.length := by
  unfold bestAskF
  split
  · exact bestF_len w t
  · simp
theorem specBestMoves_spec (w : Tx) (t : Bool) (hw : w.length ≤ 1048576) : Spec Tryd.prog 33 [.c (.str w), vb t] [] (isRes [.c (.sl 1001), vb (lineOf w 10)] [(1001, .sl 47 2 (mvE (bestAskF w t)))]) := by
  have h1 := gaFew_spec w hw
  unfold bestAskF
  refine Spec.of_wpx tt_ok Tryd.func33 (by kernel_rfl) rfl ?_
  cases hq : lineOf w 10 with
  | true =>
    rw [hq] at h1
    have h2 := gaBest_spec w t (line_ok hq) (by have := line_len hq; omega) ([], []) okKn_nil
    rw [if_pos rfl]
    generalize bestF w t = bl at *
    unfold knB at h2
    have h2 := Spec.renE [(1000, 10), (1001, 2001), (1002, 2002), (1011, 2011), (1012, 2012), (1021, 1001)] [(10, 1000), (2001, 1001), (2002, 1002), (2011, 1011), (2012, 1012), (1001, 1021)] h2 (fun _ => rfl) (fun _ => rfl) rfl
    (repeat' ((conv => whnf); first | refine CondVC.t ?_ | refine CondVC.f ?_ | refine CondVC.dec (fun h => ?_) (fun h => ?_) | refine CondVC.ndec (fun h => ?_) (fun h => ?_) | refine CondVC.mk (fun h => ?_) (fun h => ?_) | refine ArVC.i64 (by first | omega | (simp only; omega)) ?_ | refine SideVC.mk (by first | omega | decide | (simp only; omega) | (simp [slS]; done) | (simp [slS]; omega) | (simp only [byteE_len, mvE_len, strE_len, intE_len, esC_len, List.length_cons, List.length_nil, List.length_append, List.length_replicate, List.length_set, Int.toNat_natCast, and_true] at *; omega)) ?_ | refine LoopN.go ?_ | exact trivial | refine AltVC.mk ?_ ?_ | refine HeldVC.mk rfl ?_ | refine CallVC.pure h1 rfl ?_ | (refine CallVC.nil 2001 9 1 [.c (.ptr 10 0), .c (.str w), vb t] [(10, .box 61 [.sl 2001, .val (.slice none 0 0)])] rfl rfl rfl ?_; refine CallVC.nil 2002 4 1 [.c (.ptr 10 0), .c (.str w), vb t] [(2001, .sl 9 1 []), (10, .box 61 [.sl 2001, .sl 2002])] rfl rfl rfl ?_; refine CallVC.ex [10, 2001, 2002] rfl h2 ?_; intro x1 hx1; refine ⟨rfl, ?_⟩) | refine OpVC.more tt_ok ?_ | refine RestVC.ext tt_ok ?_)); all_goals (conv => whnf)
    all_goals exact RetVC.res rfl rfl
  | false =>
    rw [hq] at h1
    (repeat' ((conv => whnf); first | refine CondVC.t ?_ | refine CondVC.f ?_ | refine CondVC.dec (fun h => ?_) (fun h => ?_) | refine CondVC.ndec (fun h => ?_) (fun h => ?_) | refine CondVC.mk (fun h => ?_) (fun h => ?_) | refine ArVC.i64 (by first | omega | (simp only; omega)) ?_ | refine SideVC.mk (by first | omega | decide | (simp only; omega) | (simp [slS]; done) | (simp [slS]; omega) | (simp only [byteE_len, mvE_len, strE_len, intE_len, esC_len, List.length_cons, List.length_nil, List.length_append, List.length_replicate, List.length_set, Int.toNat_natCast, and_true] at *; omega)) ?_ | refine LoopN.go ?_ | exact trivial | refine AltVC.mk ?_ ?_ | refine HeldVC.mk rfl ?_ | refine CallVC.pure h1 rfl ?_ | refine OpVC.more tt_ok ?_ | refine RestVC.ext tt_ok ?_)); all_goals (conv => whnf)
    all_goals exact RetVC.nil 1001 47 2 [.c (.sl 1001), vb false] [] rfl rfl rfl (RetVC.res rfl rfl)
theorem implBestMoves_spec (w : Tx) (t : Bool) (hw : w.length ≤ 1048576) : Spec Tryd.prog 34 [.c (.str w), vb t] [] (isRes [.c (.sl 1001), vb (lineOf w 10)] [(1001, .sl 47 2 (mvE (bestAskF w t)))]) := by
  have h1 := isPlayed_spec w hw
  unfold bestAskF
  refine Spec.of_wpx tt_ok Tryd.func34 (by kernel_rfl) rfl ?_
  cases hq : lineOf w 10 with
  | true =>
    rw [hq] at h1
    have h2 := best_spec w t (by have := line_len hq; omega) [] okWin_nil
    rw [if_pos rfl]
    generalize bestF w t = bl at *
    have h2 := Spec.renE [(1000, 2000), (1011, 1001)] [(2000, 1000), (1001, 1011)] h2 (fun _ => rfl) (fun _ => rfl) rfl
    (repeat' ((conv => whnf); first | refine CondVC.t ?_ | refine CondVC.f ?_ | refine CondVC.dec (fun h => ?_) (fun h => ?_) | refine CondVC.ndec (fun h => ?_) (fun h => ?_) | refine CondVC.mk (fun h => ?_) (fun h => ?_) | refine ArVC.i64 (by first | omega | (simp only; omega)) ?_ | refine SideVC.mk (by first | omega | decide | (simp only; omega) | (simp [slS]; done) | (simp [slS]; omega) | (simp only [byteE_len, mvE_len, strE_len, intE_len, esC_len, List.length_cons, List.length_nil, List.length_append, List.length_replicate, List.length_set, Int.toNat_natCast, and_true] at *; omega)) ?_ | refine LoopN.go ?_ | exact trivial | refine AltVC.mk ?_ ?_ | refine HeldVC.mk rfl ?_ | refine CallVC.pure h1 rfl ?_ | refine CallVC.res [] rfl (Spec.ren [(1000, 2000)] [(2000, 1000)] newGames_spec rfl rfl rfl) rfl ?_ | (refine CallVC.ex [2000] rfl h2 ?_; intro x1 hx1; refine ⟨rfl, ?_⟩) | refine OpVC.more tt_ok ?_ | refine RestVC.ext tt_ok ?_)); all_goals (conv => whnf)
    all_goals exact RetVC.res rfl rfl
  | false =>
    rw [hq] at h1
    (repeat' ((conv => whnf); first | refine CondVC.t ?_ | refine CondVC.f ?_ | refine CondVC.dec (fun h => ?_) (fun h => ?_) | refine CondVC.ndec (fun h => ?_) (fun h => ?_) | refine CondVC.mk (fun h => ?_) (fun h => ?_) | refine ArVC.i64 (by first | omega | (simp only; omega)) ?_ | refine SideVC.mk (by first | omega | decide | (simp only; omega) | (simp [slS]; done) | (simp [slS]; omega) | (simp only [byteE_len, mvE_len, strE_len, intE_len, esC_len, List.length_cons, List.length_nil, List.length_append, List.length_replicate, List.length_set, Int.toNat_natCast, and_true] at *; omega)) ?_ | refine LoopN.go ?_ | exact trivial | refine AltVC.mk ?_ ?_ | refine HeldVC.mk rfl ?_ | refine CallVC.pure h1 rfl ?_ | refine OpVC.more tt_ok ?_ | refine RestVC.ext tt_ok ?_)); all_goals (conv => whnf)
    all_goals exact RetVC.nil 1001 47 2 [.c (.sl 1001), vb false] [] rfl rfl rfl (RetVC.res rfl rfl)
theorem lawBestMoves_spec (w : Tx) (hw : w.length ≤ 9223372036854775807) (t : Bool) : Spec Tryd.prog 11 [.c (.str w), vb t] [] (isRes [vb true] []) := by
  refine Spec.of_wpx tt_ok Tryd.func11 (by kernel_rfl) rfl ?_
  by_cases hb : w.length ≤ 1048576
  · have h1 := specBestMoves_spec w t hb
    have h2 := implBestMoves_spec w t hb
    have hl : (bestAskF w t).length ≤ 1048576 := by have := bestAskF_len w t; omega
    generalize bestAskF w t = l at *
    generalize lineOf w 10 = b at *
    cases b
    all_goals
      (repeat' ((conv => whnf); first | refine CondVC.t ?_ | refine CondVC.f ?_ | refine CondVC.dec (fun h => ?_) (fun h => ?_) | refine CondVC.ndec (fun h => ?_) (fun h => ?_) | refine CondVC.mk (fun h => ?_) (fun h => ?_) | refine ArVC.i64 (by first | omega | (simp only; omega)) ?_ | refine SideVC.mk (by first | omega | decide | (simp only; omega) | (simp [slS]; done) | (simp [slS]; omega) | (simp only [byteE_len, mvE_len, strE_len, intE_len, esC_len, List.length_cons, List.length_nil, List.length_append, List.length_replicate, List.length_set, Int.toNat_natCast, and_true] at *; omega)) ?_ | refine LoopN.go ?_ | exact trivial | refine AltVC.mk ?_ ?_ | refine HeldVC.mk rfl ?_ | refine CallVC.res [] rfl (Spec.ren [(1001, 2001)] [(2001, 1001)] h1 rfl rfl rfl) rfl ?_ | refine CallVC.res [] rfl (Spec.ren [(1001, 2002)] [(2002, 1001)] h2 rfl rfl rfl) rfl ?_ | refine CallVC.res [] rfl (Spec.ren [(1001, 2003)] [(2003, 1001)] h2 rfl rfl rfl) rfl ?_ | refine CallVC.res [2002, 2001] rfl (Spec.ren [(1000, 2002), (1001, 2001)] [(2002, 1000), (2001, 1001)] (eqMoveS_self l (by omega)) rfl rfl rfl) rfl ?_ | refine CallVC.res [2003, 2001] rfl (Spec.ren [(1000, 2003), (1001, 2001)] [(2003, 1000), (2001, 1001)] (eqMoveS_self l (by omega)) rfl rfl rfl) rfl ?_ | refine CallVC.res [2002] rfl (Spec.ren [(1000, 2002)] [(2002, 1000)] (markMoveS_spec l 1 (by omega) (by omega)) rfl rfl rfl) rfl ?_ | refine CallVC.res [2002] rfl (Spec.ren [(1000, 2002)] [(2002, 1000)] (heldMoveS_spec l.length 1 (by omega) (by omega)) rfl rfl rfl) rfl ?_ | refine OpVC.more tt_ok ?_ | refine RestVC.ext tt_ok ?_)); all_goals (conv => whnf)
    all_goals first | exact RetVC.res rfl rfl | (exfalso; omega) | (exfalso; simp_all; done)
  · (repeat' ((conv => whnf); first | refine CondVC.t ?_ | refine CondVC.f ?_ | refine CondVC.dec (fun h => ?_) (fun h => ?_) | refine CondVC.ndec (fun h => ?_) (fun h => ?_) | refine CondVC.mk (fun h => ?_) (fun h => ?_) | refine ArVC.i64 (by first | omega | (simp only; omega)) ?_ | refine SideVC.mk (by first | omega | decide | (simp only; omega) | (simp [slS]; done) | (simp [slS]; omega) | (simp only [byteE_len, mvE_len, strE_len, intE_len, esC_len, List.length_cons, List.length_nil, List.length_append, List.length_replicate, List.length_set, Int.toNat_natCast, and_true] at *; omega)) ?_ | refine LoopN.go ?_ | exact trivial | refine AltVC.mk ?_ ?_ | refine HeldVC.mk rfl ?_ | refine OpVC.more tt_ok ?_ | refine RestVC.ext tt_ok ?_)); all_goals (conv => whnf)
    all_goals first | exact RetVC.res rfl rfl | (exfalso; omega)
end Go.Proofs.YtjpabjmcooiflaaDoor.X
