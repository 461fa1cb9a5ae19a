/- First and last exchanges: the program's and the reference's. No condition beyond each statement's. -/
import Derived.Test.YtblihaicbhdbdaaSwap
namespace Go.Proofs.Ytblihaicbhdbdaa.X
open Go.Proofs
set_option maxRecDepth 100000
set_option linter.unusedVariables false
set_option linter.unusedSimpArgs false

/-- A function that takes the first or the last move of a list. -/
def PickS (f : FuncId) (last : Bool) : Prop := ∀ (l : List Mv) (m : Mv), l.length ≤ 1000000 → pickF last l = some m → Spec Try.prog f [.c (.sl 1000)] [(1000, .sl 66 2 (mvE l))] (isRes [.agg (mvC m)] [(1000, .sl 66 2 (mvE l))])
theorem pickFirst_spec : PickS 79 false := by
  intro l m hl h
  have hml := mvE_len l
  have h0 : 0 < l.length ∧ l[0]? = some m := by
    unfold pickF at h
    simp only [Bool.false_eq_true, if_false, List.head?_eq_getElem?] at h
    exact ⟨by have := List.getElem?_eq_some_iff.1 h; exact this.1, h⟩
  have g1 : (mvE l)[(0 : Int).toNat]? = some (mvC m) := by
    show (mvE l)[0]? = _
    unfold mvE; rw [List.getElem?_map, h0.2]; rfl
  refine Spec.of_wpx tt_ok Try.func79 (by kernel_rfl) rfl ?_
  (repeat' ((conv => whnf); first | refine CondVC.t ?_ | refine CondVC.f ?_ | refine CondVC.dec (fun h => ?_) (fun h => ?_) | refine CondVC.ndec (fun h => ?_) (fun h => ?_) | refine CondVC.mk (fun h => ?_) (fun h => ?_) | refine ArVC.i64 (by first | omega | (simp only; omega)) ?_ | refine SideVC.mk (by first | omega | decide | (simp only; omega) | (simp [slS]; done) | (simp [slS]; omega) | (simp only [byteE_len, mvE_len, strE_len, intE_len, esC_len, List.length_cons, List.length_nil, List.length_append, List.length_replicate, List.length_set, Int.toNat_natCast, and_true] at *; omega)) ?_ | refine LoopN.go ?_ | exact trivial | refine AltVC.mk ?_ ?_ | refine HeldVC.mk rfl ?_ | refine LoadVC.mk _ g1 ?_ | refine SideVC.mk (by rw [hml]; omega) ?_ | refine OpVC.more tt_ok ?_ | refine RestVC.ext tt_ok ?_)); all_goals (conv => whnf)
  all_goals exact RetVC.res rfl rfl

def exchOk (x y z : Int) : Bool := numsF x y z 8 && decide (0 < wp (lastF (firstF x.toNat y.toNat z.toNat)) (firstF x.toNat y.toNat z.toNat))
def exchL (last : Bool) (x y z : Int) : List Mv := if exchOk x y z then exchF last (lastF (firstF x.toNat y.toNat z.toNat)) (firstF x.toNat y.toNat z.toNat) else []
theorem exchange_spec (f : FuncId) (last : Bool) (hf : PickS f last) (x y z : Int) : Spec Try.prog 78 [i64 x, i64 y, i64 z, .c (.fn f [])] []
    (isRes [.c (.sl 1001), vb (exchOk x y z)] [(1001, .sl 66 2 (mvE (exchL last x y z)))]) := by
  unfold exchL
  cases hn : numsF x y z 8 with
  | false =>
    have e : exchOk x y z = false := by simp [exchOk, hn]
    rw [e, if_neg Bool.false_ne_true]
    have h1 := swapOfNo_spec x y z hn
    refine Spec.of_wpx tt_ok Try.func78 (by kernel_rfl) rfl ?_
    (repeat' ((conv => whnf); first | refine CondVC.t ?_ | refine CondVC.f ?_ | refine CondVC.dec (fun h => ?_) (fun h => ?_) | refine CondVC.ndec (fun h => ?_) (fun h => ?_) | refine CondVC.mk (fun h => ?_) (fun h => ?_) | refine ArVC.i64 (by first | omega | (simp only; omega)) ?_ | refine SideVC.mk (by first | omega | decide | (simp only; omega) | (simp [slS]; done) | (simp [slS]; omega) | (simp only [byteE_len, mvE_len, strE_len, intE_len, esC_len, List.length_cons, List.length_nil, List.length_append, List.length_replicate, List.length_set, Int.toNat_natCast, and_true] at *; omega)) ?_ | refine LoopN.go ?_ | exact trivial | refine AltVC.mk ?_ ?_ | refine HeldVC.mk rfl ?_ | refine CallVC.pure h1 rfl ?_ | refine OpVC.more tt_ok ?_ | refine RestVC.ext tt_ok ?_)); all_goals (conv => whnf)
    all_goals exact RetVC.nil 1001 66 2 [.c (.sl 1001), vb false] [(11, .box 60 [.str [], .val (.map none)])] rfl rfl rfl (RetVC.res rfl rfl)
  | true =>
    obtain ⟨a, b, c, rfl, rfl, rfl, hge, hle⟩ := nums_cast hn
    have e : exchOk a b c = decide (0 < wp (lastF (firstF a b c)) (firstF a b c)) := by simp [exchOk, hn]
    rw [e]
    simp only [Int.toNat_natCast]
    have h2 := Spec.renE [(1000, 2000)] [(2000, 1000)] (swapOf_spec a b c ⟨hge, by omega⟩) (fun _ => rfl) (fun _ => rfl) rfl
    have hl := firstF_len a b c
    generalize lastF (firstF a b c) = g at *
    generalize firstF a b c = w at *
    by_cases hp : 0 < wp g w
    · rw [decide_eq_true hp] at h2
      rw [decide_eq_true hp, if_pos rfl]
      have htl : (exchF last g w).length ≤ 64 := by
        have h1 := exchF_len last g _ w rfl
        have h2 := wayF_le w
        have h3 : w.length * w.length ≤ 8 * 8 := Nat.mul_le_mul (by omega) (by omega)
        omega
      generalize htot : exchF last g w = tot at *
      refine Spec.of_wpx tt_ok Try.func78 (by kernel_rfl) rfl ?_
      (repeat' ((conv => whnf); first | refine CondVC.t ?_ | refine CondVC.f ?_ | refine CondVC.dec (fun h => ?_) (fun h => ?_) | refine CondVC.ndec (fun h => ?_) (fun h => ?_) | refine CondVC.mk (fun h => ?_) (fun h => ?_) | refine ArVC.i64 (by first | omega | (simp only; omega)) ?_ | refine SideVC.mk (by first | omega | decide | (simp only; omega) | (simp [slS]; done) | (simp [slS]; omega) | (simp only [byteE_len, mvE_len, strE_len, intE_len, esC_len, List.length_cons, List.length_nil, List.length_append, List.length_replicate, List.length_set, Int.toNat_natCast, and_true] at *; omega)) ?_ | refine LoopN.go ?_ | exact trivial | refine AltVC.mk ?_ ?_ | refine HeldVC.mk rfl ?_ | (refine CallVC.ex [] rfl h2 ?_; intro es1 hes1; refine ⟨rfl, ?_⟩) | refine OpVC.more tt_ok ?_ | refine RestVC.ext tt_ok ?_)); all_goals (conv => whnf)
      refine LoopVC.mk (G := Tx × List Mv × List (C × V)) (fun γ => ⟨[(13, .v (.c (.sl 1021))), (10, .v (.c (.str γ.1))), (11, .v (.c (.ptr 11 0))), (3, .v (.c (.fn f [])))],
          [(1021, .sl 66 2 (mvE γ.2.1)), (11, .box 60 [.str g, .mp 2000]), (2000, .ext (.mp none γ.2.2))]⟩)
        (fun γ => γ.1.length ≤ 8 ∧ 0 < wp g γ.1 ∧ γ.2.1 ++ exchF last g γ.1 = tot ∧ okWays g γ.2.2) (fun γ => wayF γ.1) (w, [], es1) ⟨by simp only; omega, hp, by simpa using htot, hes1⟩ (Sub.mk [(1021, 25)] _ ⟨rfl, rfl, rfl, rfl, trivial⟩ rfl rfl) ?_
      rintro ⟨w', out, es⟩ ⟨hwl, hwp, hout, hes⟩
      simp only at hwl hwp hout hes
      have hol : out.length ≤ 64 := by have := congrArg List.length hout; simp at this; omega
      by_cases hwg : w' = g
      · have e1 : tot = out := by rw [← hout, hwg, exchF_self, List.append_nil]
        rw [e1]
        (repeat' ((conv => whnf); first | refine CondVC.t ?_ | refine CondVC.f ?_ | refine CondVC.dec (fun h => ?_) (fun h => ?_) | refine CondVC.ndec (fun h => ?_) (fun h => ?_) | refine CondVC.mk (fun h => ?_) (fun h => ?_) | refine ArVC.i64 (by first | omega | (simp only; omega)) ?_ | refine SideVC.mk (by first | omega | decide | (simp only; omega) | (simp [slS]; done) | (simp [slS]; omega) | (simp only [byteE_len, mvE_len, strE_len, intE_len, esC_len, List.length_cons, List.length_nil, List.length_append, List.length_replicate, List.length_set, Int.toNat_natCast, and_true] at *; omega)) ?_ | refine LoopN.go ?_ | exact trivial | refine AltVC.mk ?_ ?_ | refine HeldVC.mk rfl ?_ | refine OpVC.more tt_ok ?_ | refine RestVC.ext tt_ok ?_)); all_goals (conv => whnf)
        all_goals first
          | (exfalso; simp_all; done)
          | exact RetVC.ren [(1001, 1021)] [.c (.sl 1001), vb true] [(1001, .sl 66 2 (mvE out))] rfl rfl rfl ⟨rfl, rfl⟩
      · obtain ⟨m, hm, hmem, hpm⟩ := live_some (last := last) hwl hwg hwp
        have hstep := exchF_step hwg hm
        have hway := way_made hmem
        obtain ⟨i1, i2, i3⟩ := movesF_in hmem
        have hmk := made_spec w' m i1 i2 (by omega)
        have hml := madeF_len w' m
        have hlv := Spec.renE [(1000, 2000), (1011, 2011)] [(2000, 1000), (2011, 1011)] (live_spec g w' (by omega) es hes) (fun _ => rfl) (fun _ => rfl) rfl
        have hll : (liveF g w').length ≤ 8 := Nat.le_trans (List.length_filter_le _ _) (Nat.le_trans (movesF_len w' both) hwl)
        have hpk := Spec.ren [(1000, 2011)] [(2011, 1000)] (hf (liveF g w') m (by omega) hm) rfl rfl rfl
        rw [hstep] at hout
        generalize liveF g w' = lv at *
        generalize madeF w' m = w2 at *
        have hm2 : mvE (out ++ [m]) = mvE out ++ [mvC m] := by rw [mvE_append]; rfl
        (repeat' ((conv => whnf); first | refine CondVC.t ?_ | refine CondVC.f ?_ | refine CondVC.dec (fun h => ?_) (fun h => ?_) | refine CondVC.ndec (fun h => ?_) (fun h => ?_) | refine CondVC.mk (fun h => ?_) (fun h => ?_) | refine ArVC.i64 (by first | omega | (simp only; omega)) ?_ | refine SideVC.mk (by first | omega | decide | (simp only; omega) | (simp [slS]; done) | (simp [slS]; omega) | (simp only [byteE_len, mvE_len, strE_len, intE_len, esC_len, List.length_cons, List.length_nil, List.length_append, List.length_replicate, List.length_set, Int.toNat_natCast, and_true] at *; omega)) ?_ | refine LoopN.go ?_ | exact trivial | refine AltVC.mk ?_ ?_ | refine HeldVC.mk rfl ?_ | (refine CallVC.ex [2000] rfl hlv ?_; intro es2 hes2; refine ⟨rfl, ?_⟩) | refine CallVC.res [2011] rfl hpk rfl ?_ | refine CallVC.pure hmk rfl ?_ | refine SideVC.mk (by simp only [mvE_len, List.length_cons, List.length_nil] at *; omega) ?_ | refine OpVC.more tt_ok ?_ | refine RestVC.ext tt_ok ?_)); all_goals (conv => whnf)
        all_goals first
          | (exfalso; simp_all; done)
          | exact ⟨(w2, out ++ [m], es2), ⟨by simp only; omega, hpm, by simp only [List.append_assoc]; exact hout, hes2⟩, hway, Sub.mk [(1021, 38)] _ ⟨rfl, rfl, rfl, rfl, trivial⟩ (by simp only [hm2]; rfl) rfl⟩
    · rw [decide_eq_false hp] at h2
      rw [decide_eq_false hp, if_neg Bool.false_ne_true]
      refine Spec.of_wpx tt_ok Try.func78 (by kernel_rfl) rfl ?_
      (repeat' ((conv => whnf); first | refine CondVC.t ?_ | refine CondVC.f ?_ | refine CondVC.dec (fun h => ?_) (fun h => ?_) | refine CondVC.ndec (fun h => ?_) (fun h => ?_) | refine CondVC.mk (fun h => ?_) (fun h => ?_) | refine ArVC.i64 (by first | omega | (simp only; omega)) ?_ | refine SideVC.mk (by first | omega | decide | (simp only; omega) | (simp [slS]; done) | (simp [slS]; omega) | (simp only [byteE_len, mvE_len, strE_len, intE_len, esC_len, List.length_cons, List.length_nil, List.length_append, List.length_replicate, List.length_set, Int.toNat_natCast, and_true] at *; omega)) ?_ | refine LoopN.go ?_ | exact trivial | refine AltVC.mk ?_ ?_ | refine HeldVC.mk rfl ?_ | (refine CallVC.ex [] rfl h2 ?_; intro es1 hes1; refine ⟨rfl, ?_⟩) | refine OpVC.more tt_ok ?_ | refine RestVC.ext tt_ok ?_)); all_goals (conv => whnf)
      all_goals exact RetVC.nil 1001 66 2 [.c (.sl 1001), vb false] [(11, .box 60 [.str g, .mp 2000]), (2000, .ext (.mp none es1))] rfl rfl rfl (RetVC.res rfl rfl)

theorem implFirstExchange_spec (x y z : Int) : Spec Try.prog 50 [i64 x, i64 y, i64 z] [] (isRes [.c (.sl 1001), vb (exchOk x y z)] [(1001, .sl 66 2 (mvE (exchL false x y z)))]) := by
  have h1 := exchange_spec _ false pickFirst_spec x y z
  generalize exchL false x y z = l at *
  generalize exchOk x y z = b at *
  refine Spec.of_wpx tt_ok Try.func50 (by kernel_rfl) rfl ?_
  (repeat' ((conv => whnf); first | refine CondVC.t ?_ | refine CondVC.f ?_ | refine CondVC.dec (fun h => ?_) (fun h => ?_) | refine CondVC.ndec (fun h => ?_) (fun h => ?_) | refine CondVC.mk (fun h => ?_) (fun h => ?_) | refine ArVC.i64 (by first | omega | (simp only; omega)) ?_ | refine SideVC.mk (by first | omega | decide | (simp only; omega) | (simp [slS]; done) | (simp [slS]; omega) | (simp only [byteE_len, mvE_len, strE_len, intE_len, esC_len, List.length_cons, List.length_nil, List.length_append, List.length_replicate, List.length_set, Int.toNat_natCast, and_true] at *; omega)) ?_ | refine LoopN.go ?_ | exact trivial | refine AltVC.mk ?_ ?_ | refine HeldVC.mk rfl ?_ | refine CallVC.res [] rfl h1 rfl ?_ | refine OpVC.more tt_ok ?_ | refine RestVC.ext tt_ok ?_)); all_goals (conv => whnf)
  all_goals exact RetVC.res rfl rfl

/-! ### The reference's -/
theorem pick_first {l : List Mv} {p : Mv → Bool} {k : Nat} (hk : k < l.length) (h : p l[k] = true) (h0 : ∀ j (hj : j < l.length), j < k → p l[j] = false) : pickF false (l.filter p) = some l[k] := by
  unfold pickF
  simp only [Bool.false_eq_true, if_false]
  have e : l = l.take k ++ l[k] :: l.drop (k + 1) := by rw [List.getElem_cons_drop, List.take_append_drop]
  have e2 : (l.take k).filter p = [] := by
    rw [List.filter_eq_nil_iff]
    intro m hm
    obtain ⟨j, hj, rfl⟩ := List.getElem_of_mem hm
    rw [List.length_take] at hj
    rw [List.getElem_take, h0 j (by omega) (by omega)]
    simp
  conv => lhs; rw [e]
  rw [List.filter_append, e2, List.filter_cons, h]
  rfl
theorem pick_last {l : List Mv} {p : Mv → Bool} {k : Nat} (hk : k < l.length) (h : p l[k] = true) (h0 : ∀ j (hj : j < l.length), k < j → p l[j] = false) : pickF true (l.filter p) = some l[k] := by
  unfold pickF
  simp only [if_true]
  have e : l = l.take k ++ l[k] :: l.drop (k + 1) := by rw [List.getElem_cons_drop, List.take_append_drop]
  have e2 : (l.drop (k + 1)).filter p = [] := by
    rw [List.filter_eq_nil_iff]
    intro m hm
    obtain ⟨j, hj, rfl⟩ := List.getElem_of_mem hm
    rw [List.length_drop] at hj
    rw [List.getElem_drop, h0 (k + 1 + j) (by omega) (by omega)]
    simp
  conv => lhs; rw [e]
  rw [List.filter_append, List.filter_cons, h, e2]
  simp
theorem live_pos {g w : Tx} (h : w.length ≤ 8) : liveF g w = (movesF w both).filter fun m => decide (0 < wp g (madeF w m)) := by
  unfold liveF
  apply List.filter_congr
  intro m _
  rw [wp_few (by rw [madeF_len]; exact h)]
  rw [Bool.eq_iff_iff]; simp; omega

theorem swOne_spec (last : Bool) (a b c : Nat) (h : 1 ≤ a + b + c ∧ a + b + c ≤ 8) : Spec Try.prog 77 [i64 a, i64 b, i64 c, vb last] []
    (isRes [.c (.sl 1001), vb (exchOk a b c)] [(1001, .sl 66 2 (mvE (exchL last a b c)))]) := by
  have hn : numsF a b c 8 = true := by unfold numsF; rw [decide_eq_true_eq]; omega
  have e : exchOk a b c = decide (0 < wp (lastF (firstF a b c)) (firstF a b c)) := by simp [exchOk, hn]
  unfold exchL
  rw [e]
  simp only [Int.toNat_natCast]
  have h2 := liFirst_spec a b c (by omega) (by omega) (by omega)
  have hl := firstF_len a b c
  have hok := firstF_ok a b c
  have h5 := ends_all (firstF a b c) (by omega) (firstF_ok a b c) ([], []) okEn_nil
  unfold enM enR at h5
  have h5 := Spec.renE [(1000, 18), (1001, 2001), (1002, 2002), (1011, 2011), (1012, 2012)] [(18, 1000), (2001, 1001), (2002, 1002), (2011, 1011), (2012, 1012)] h5 (fun _ => rfl) (fun _ => rfl) rfl
  have hnn : 0 ≤ wp (lastF (firstF a b c)) (firstF a b c) := by rw [wp_few (by omega)]; omega
  generalize hw0 : firstF a b c = w at *
  generalize hg0 : lastF w = g at *
  by_cases hp : 0 < wp g w
  · rw [decide_eq_true hp, if_pos rfl]
    have htl : (exchF last g w).length ≤ 64 := by
      have h1 := exchF_len last g _ w rfl
      have h2 := wayF_le w
      have h3 : w.length * w.length ≤ 8 * 8 := Nat.mul_le_mul (by omega) (by omega)
      omega
    generalize htot : exchF last g w = tot at *
    generalize hq : wp g w = q at h5 hp hnn
    refine Spec.of_wpx tt_ok Try.func77 (by kernel_rfl) rfl ?_
    (repeat' ((conv => whnf); first | refine CondVC.t ?_ | refine CondVC.f ?_ | refine CondVC.dec (fun h => ?_) (fun h => ?_) | refine CondVC.ndec (fun h => ?_) (fun h => ?_) | refine CondVC.mk (fun h => ?_) (fun h => ?_) | refine ArVC.i64 (by first | omega | (simp only; omega)) ?_ | refine SideVC.mk (by first | omega | decide | (simp only; omega) | (simp [slS]; done) | (simp [slS]; omega) | (simp only [byteE_len, mvE_len, strE_len, intE_len, esC_len, List.length_cons, List.length_nil, List.length_append, List.length_replicate, List.length_set, Int.toNat_natCast, and_true] at *; omega)) ?_ | refine LoopN.go ?_ | exact trivial | refine AltVC.mk ?_ ?_ | refine HeldVC.mk rfl ?_ | refine CallVC.pure h2 rfl ?_ | (refine CallVC.nil 2001 9 1 [.c (.ptr 18 0), .c (.str w)] [(18, .box 48 [.sl 2001, .val (.slice none 0 0)])] rfl rfl rfl ?_; refine CallVC.nil 2002 3 1 [.c (.ptr 18 0), .c (.str w)] [(2001, .sl 9 1 []), (18, .box 48 [.sl 2001, .sl 2002])] rfl rfl rfl ?_; refine CallVC.ex [18, 2001, 2002] rfl h5 ?_; intro x1 hx1; refine ⟨rfl, ?_⟩) | refine OpVC.more tt_ok ?_ | refine RestVC.ext tt_ok ?_)); all_goals (conv => whnf)
    · exfalso; omega
    refine LoopVC.mk (G := Tx × List Mv × Wy) (fun γ => ⟨[(12, .v (.c (.sl 1021))), (11, .v (.c (.str γ.1))), (10, .v (.c (.ptr 18 0))), (3, .v (vb last))],
        [(1021, .sl 66 2 (mvE γ.2.1)), (18, .box 48 [.sl 3001, .sl 3002]), (3001, .sl 9 1 (strE γ.2.2.1)), (3002, .sl 3 1 (intE γ.2.2.2))]⟩)
      (fun γ => γ.1.length ≤ 8 ∧ γ.1.all okCh = true ∧ lastF γ.1 = g ∧ 0 < wp g γ.1 ∧ γ.2.1 ++ exchF last g γ.1 = tot ∧ okEn γ.2.2) (fun γ => wayF γ.1) (w, [], x1) ⟨by simp only; omega, hok, hg0, by rw [hq]; exact hp, by simpa using htot, hx1.1⟩
      (Sub.trans (t := ⟨[(12, .v (.c (.sl 1021))), (11, .v (.c (.str w))), (10, .v (.c (.ptr 18 0))), (3, .v (vb last))],
        [(1021, .sl 66 2 []), (18, .box 48 [.sl 2011, .sl 2012]), (2011, .sl 9 1 (strE x1.1)), (2012, .sl 3 1 (intE x1.2))]⟩)
        (Sub.nil 1021 66 2 ⟨rfl, rfl, rfl, rfl, trivial⟩ rfl rfl)
        (Sub.mk [(3001, 2011), (3002, 2012)] [] ⟨rfl, rfl, rfl, rfl, trivial⟩ rfl rfl)) ?_
    rintro ⟨w', out, x⟩ ⟨hwl, hwok, hwg0, hwp, hout, hx⟩
    simp only at hwl hwok hwg0 hwp hout hx
    have hol : out.length ≤ 64 := by have := congrArg List.length hout; simp at this; omega
    have hll := liLast_spec w' (by omega)
    rw [hwg0] at hll
    by_cases hwg : w' = g
    · have e1 : tot = out := by rw [← hout, hwg, exchF_self, List.append_nil]
      rw [e1]
      (repeat' ((conv => whnf); first | refine CondVC.t ?_ | refine CondVC.f ?_ | refine CondVC.dec (fun h => ?_) (fun h => ?_) | refine CondVC.ndec (fun h => ?_) (fun h => ?_) | refine CondVC.mk (fun h => ?_) (fun h => ?_) | refine ArVC.i64 (by first | omega | (simp only; omega)) ?_ | refine SideVC.mk (by first | omega | decide | (simp only; omega) | (simp [slS]; done) | (simp [slS]; omega) | (simp only [byteE_len, mvE_len, strE_len, intE_len, esC_len, List.length_cons, List.length_nil, List.length_append, List.length_replicate, List.length_set, Int.toNat_natCast, and_true] at *; omega)) ?_ | refine LoopN.go ?_ | exact trivial | refine AltVC.mk ?_ ?_ | refine HeldVC.mk rfl ?_ | refine CallVC.pure hll rfl ?_ | refine OpVC.more tt_ok ?_ | refine RestVC.ext tt_ok ?_)); all_goals (conv => whnf)
      all_goals first
        | (exfalso; simp_all; done)
        | exact RetVC.ren [(1001, 1021)] [.c (.sl 1001), vb true] [(1001, .sl 66 2 (mvE out))] rfl rfl rfl ⟨rfl, rfl⟩
    · obtain ⟨m, hm, hmem, hpm⟩ := live_some (last := last) hwl hwg hwp
      have hstep := exchF_step hwg hm
      have hway := way_made hmem
      obtain ⟨i1, i2, i3⟩ := movesF_in hmem
      have hmkm := liMake_spec w' m i1 i2 i3 (by omega)
      have hml := madeF_len w' m
      have hokm := okCh_made hwok (m := m) (by omega)
      have hlm := lastF_made hmem
      rw [hwg0] at hlm
      rw [hstep] at hout
      rw [live_pos hwl] at hm
      have hmv := liMoves_spec w' true true hwok (by omega)
      rw [liMoves_eq hwok] at hmv
      have ekd : kindsF true true = both := rfl
      rw [ekd] at hmv
      have hmv := Spec.ren [(1001, 2001)] [(2001, 1001)] hmv rfl rfl rfl
      have hin : ∀ m ∈ movesF w' both, _ := fun m hm => movesF_in hm
      have hlen := movesF_len w' both
      have hmk : ∀ m ∈ movesF w' both, _ := fun m hm => liMake_spec w' m (hin m hm).1 (hin m hm).2.1 (hin m hm).2.2 (by omega)
      have hW : ∀ m ∈ movesF w' both, ∀ x, okEn x → _ := fun m hm x hx => by
        have h1 := ends_all (madeF w' m) (by rw [madeF_len]; omega) (okCh_made hwok (by have := (hin m hm).1; omega)) x hx
        rw [lastF_made hm, hwg0] at h1
        unfold enM enR at h1
        exact Spec.renE [(1000, 18), (1001, 3001), (1002, 3002), (1011, 3011), (1012, 3012)] [(18, 1000), (3001, 1001), (3002, 1002), (3011, 1011), (3012, 1012)] h1 (fun _ => rfl) (fun _ => rfl) rfl
      have hnone : pickF last ((movesF w' both).filter fun m => decide (0 < wp g (madeF w' m))) ≠ none := by rw [hm]; simp
      generalize hl0 : movesF w' both = l at *
      have hmll := mvE_len l
      have hm2 : mvE (out ++ [m]) = mvE out ++ [mvC m] := by rw [mvE_append]; rfl
      cases last with
      | false =>
        have hpk : ∀ k (hk : k < l.length), decide (0 < wp g (madeF w' l[k])) = true → (∀ j (hj : j < l.length), j < k → decide (0 < wp g (madeF w' l[j])) = false) → m = l[k] := fun k hk h h0 => by
          have := pick_first (p := fun m => decide (0 < wp g (madeF w' m))) hk h h0
          rw [hm] at this
          exact Option.some.inj this
        have hnone : ¬ ∀ j (hj : j < l.length), decide (0 < wp g (madeF w' l[j])) = false := fun h => hnone (by
          have : l.filter (fun m => decide (0 < wp g (madeF w' m))) = [] := by
            rw [List.filter_eq_nil_iff]
            intro m hm
            obtain ⟨j, hj, rfl⟩ := List.getElem_of_mem hm
            rw [h j hj]; simp
          rw [this]; rfl)
        generalize hw2 : madeF w' m = w2 at hmkm hway hml hokm hlm hpm hout
        (repeat' ((conv => whnf); first | refine CondVC.t ?_ | refine CondVC.f ?_ | refine CondVC.dec (fun h => ?_) (fun h => ?_) | refine CondVC.ndec (fun h => ?_) (fun h => ?_) | refine CondVC.mk (fun h => ?_) (fun h => ?_) | refine ArVC.i64 (by first | omega | (simp only; omega)) ?_ | refine SideVC.mk (by first | omega | decide | (simp only; omega) | (simp [slS]; done) | (simp [slS]; omega) | (simp only [byteE_len, mvE_len, strE_len, intE_len, esC_len, List.length_cons, List.length_nil, List.length_append, List.length_replicate, List.length_set, Int.toNat_natCast, and_true] at *; omega)) ?_ | refine LoopN.go ?_ | exact trivial | refine AltVC.mk ?_ ?_ | refine HeldVC.mk rfl ?_ | refine CallVC.pure hll rfl ?_ | refine CallVC.res [] rfl hmv rfl ?_ | refine OpVC.more tt_ok ?_ | refine RestVC.ext tt_ok ?_)); all_goals (conv => whnf)
        all_goals try (exfalso; exact absurd hwg (by assumption))
        refine LoopVC.mk (G := Nat × Wy) (fun δ => ⟨[(35, .v (i64 δ.1)), (34, .v (i64 l.length)), (33, .v (.c (.sl 2001))), (14, .v (i64 0)), (13, .v (.c (.sl 2001))), (12, .v (.c (.sl 1021))), (11, .v (.c (.str w'))), (10, .v (.c (.ptr 18 0))), (3, .v (vb false))],
            [(2001, .sl 66 2 (mvE l)), (1021, .sl 66 2 (mvE out)), (18, .box 48 [.sl 3001, .sl 3002]), (3001, .sl 9 1 (strE δ.2.1)), (3002, .sl 3 1 (intE δ.2.2))]⟩)
          (fun δ => δ.1 ≤ l.length ∧ okEn δ.2 ∧ ∀ j (hj : j < l.length), j < δ.1 → decide (0 < wp g (madeF w' l[j])) = false) (fun δ => l.length - δ.1) (0, x) ⟨by omega, hx, fun j hj h => by simp at h⟩ (Sub.mk [] _ ⟨rfl, by rw [hmll]; rfl, rfl, rfl, rfl, rfl, rfl, rfl, rfl, trivial⟩ rfl rfl) ?_
        rintro ⟨i, x⟩ ⟨hi, hx, hno⟩
        simp only at hi hx hno
        by_cases hil : i < l.length
        · have hmi := List.getElem_mem hil
          have g1 : (mvE l)[(i : Int).toNat]? = some (mvC l[i]) := by rw [Int.toNat_natCast]; exact mvE_get hil
          have h6 := hmk _ hmi
          have h8 := hW _ hmi x hx
          have hpi := hpk i hil
          by_cases hb : 0 < wp g (madeF w' l[i])
          · have em := hpi (decide_eq_true hb) hno
            generalize hmi2 : l[i] = mi at *
            subst em
            rw [hw2] at h6 h8 hb
            generalize wp g w2 = q2 at h8 hb
            (repeat' ((conv => whnf); first | refine CondVC.t ?_ | refine CondVC.f ?_ | refine CondVC.dec (fun h => ?_) (fun h => ?_) | refine CondVC.ndec (fun h => ?_) (fun h => ?_) | refine CondVC.mk (fun h => ?_) (fun h => ?_) | refine ArVC.i64 (by first | omega | (simp only; omega)) ?_ | refine SideVC.mk (by first | omega | decide | (simp only; omega) | (simp [slS]; done) | (simp [slS]; omega) | (simp only [byteE_len, mvE_len, strE_len, intE_len, esC_len, List.length_cons, List.length_nil, List.length_append, List.length_replicate, List.length_set, Int.toNat_natCast, and_true] at *; omega)) ?_ | refine LoopN.go ?_ | exact trivial | refine AltVC.mk ?_ ?_ | refine HeldVC.mk rfl ?_ | refine LoadVC.mk _ g1 ?_ | refine SideVC.mk (by rw [hmll]; omega) ?_ | refine CallVC.pure h6 rfl ?_ | (refine CallVC.ex [18, 3001, 3002] rfl h8 ?_; intro x' hx'; refine ⟨rfl, ?_⟩) | refine SideVC.mk (by simp only [mvE_len, List.length_cons, List.length_nil] at *; omega) ?_ | refine OpVC.more tt_ok ?_ | refine RestVC.ext tt_ok ?_)); all_goals (conv => whnf)
            all_goals first
              | (exfalso; omega)
              | exact ⟨(w2, out ++ [m], x'), ⟨by simp only; omega, hokm, hlm, hpm, by simp only [List.append_assoc]; exact hout, hx'.1⟩, hway, Sub.mk [(1021, 56), (3001, 3011), (3002, 3012)] _ ⟨rfl, rfl, rfl, rfl, trivial⟩ (by simp only [hm2]; rfl) rfl⟩
          · have hb2 := decide_eq_false hb
            generalize hmi2 : wp g (madeF w' l[i]) = q2 at h8 hb
            generalize madeF w' l[i] = w3 at h6 h8
            (repeat' ((conv => whnf); first | refine CondVC.t ?_ | refine CondVC.f ?_ | refine CondVC.dec (fun h => ?_) (fun h => ?_) | refine CondVC.ndec (fun h => ?_) (fun h => ?_) | refine CondVC.mk (fun h => ?_) (fun h => ?_) | refine ArVC.i64 (by first | omega | (simp only; omega)) ?_ | refine SideVC.mk (by first | omega | decide | (simp only; omega) | (simp [slS]; done) | (simp [slS]; omega) | (simp only [byteE_len, mvE_len, strE_len, intE_len, esC_len, List.length_cons, List.length_nil, List.length_append, List.length_replicate, List.length_set, Int.toNat_natCast, and_true] at *; omega)) ?_ | refine LoopN.go ?_ | exact trivial | refine AltVC.mk ?_ ?_ | refine HeldVC.mk rfl ?_ | refine LoadVC.mk _ g1 ?_ | refine SideVC.mk (by rw [hmll]; omega) ?_ | refine CallVC.pure h6 rfl ?_ | (refine CallVC.ex [18, 3001, 3002] rfl h8 ?_; intro x' hx'; refine ⟨rfl, ?_⟩) | refine OpVC.more tt_ok ?_ | refine RestVC.ext tt_ok ?_)); all_goals (conv => whnf)
            all_goals first
              | (exfalso; omega)
              | exact ⟨(i + 1, x'), ⟨by omega, hx'.1, fun j hj h => by
                  by_cases e : j = i
                  · subst e; exact hb2
                  · exact hno j hj (by omega)⟩, by simp only; omega, Sub.mk [(3001, 3011), (3002, 3012)] _ ⟨rfl, rfl, rfl, rfl, rfl, rfl, rfl, rfl, rfl, trivial⟩ rfl rfl⟩
        · exact absurd (fun j hj => hno j hj (by omega)) hnone
      | true =>
        have hpk : ∀ k (hk : k < l.length), decide (0 < wp g (madeF w' l[k])) = true → (∀ j (hj : j < l.length), k < j → decide (0 < wp g (madeF w' l[j])) = false) → m = l[k] := fun k hk h h0 => by
          have := pick_last (p := fun m => decide (0 < wp g (madeF w' m))) hk h h0
          rw [hm] at this
          exact Option.some.inj this
        have hsome : ∃ j, ∃ hj : j < l.length, decide (0 < wp g (madeF w' l[j])) = true := by
          apply Classical.byContradiction
          intro hn
          exact hnone (by
            have : l.filter (fun m => decide (0 < wp g (madeF w' m))) = [] := by
              rw [List.filter_eq_nil_iff]
              intro m hm hq
              obtain ⟨j, hj, rfl⟩ := List.getElem_of_mem hm
              exact hn ⟨j, hj, hq⟩
            rw [this]; rfl)
        generalize hw2 : madeF w' m = w2 at hmkm hway hml hokm hlm hpm hout
        (repeat' ((conv => whnf); first | refine CondVC.t ?_ | refine CondVC.f ?_ | refine CondVC.dec (fun h => ?_) (fun h => ?_) | refine CondVC.ndec (fun h => ?_) (fun h => ?_) | refine CondVC.mk (fun h => ?_) (fun h => ?_) | refine ArVC.i64 (by first | omega | (simp only; omega)) ?_ | refine SideVC.mk (by first | omega | decide | (simp only; omega) | (simp [slS]; done) | (simp [slS]; omega) | (simp only [byteE_len, mvE_len, strE_len, intE_len, esC_len, List.length_cons, List.length_nil, List.length_append, List.length_replicate, List.length_set, Int.toNat_natCast, and_true] at *; omega)) ?_ | refine LoopN.go ?_ | exact trivial | refine AltVC.mk ?_ ?_ | refine HeldVC.mk rfl ?_ | refine CallVC.pure hll rfl ?_ | refine CallVC.res [] rfl hmv rfl ?_ | refine OpVC.more tt_ok ?_ | refine RestVC.ext tt_ok ?_)); all_goals (conv => whnf)
        all_goals try (exfalso; exact absurd hwg (by assumption))
        refine LoopVC.mk (G := Nat × Nat × Wy) (fun δ => ⟨[(35, .v (i64 δ.1)), (34, .v (i64 l.length)), (33, .v (.c (.sl 2001))), (14, .v (i64 δ.2.1)), (13, .v (.c (.sl 2001))), (12, .v (.c (.sl 1021))), (11, .v (.c (.str w'))), (10, .v (.c (.ptr 18 0))), (3, .v (vb true))],
            [(2001, .sl 66 2 (mvE l)), (1021, .sl 66 2 (mvE out)), (18, .box 48 [.sl 3001, .sl 3002]), (3001, .sl 9 1 (strE δ.2.2.1)), (3002, .sl 3 1 (intE δ.2.2.2))]⟩)
          (fun δ => δ.1 ≤ l.length ∧ okEn δ.2.2 ∧ ∀ j (hj : j < l.length), j < δ.1 → decide (0 < wp g (madeF w' l[j])) = true → δ.2.1 < δ.1 ∧ j ≤ δ.2.1 ∧ ∀ hk : δ.2.1 < l.length, decide (0 < wp g (madeF w' l[δ.2.1])) = true) (fun δ => l.length - δ.1) (0, 0, x) ⟨by omega, hx, fun j hj h => by simp at h⟩ (Sub.mk [] _ ⟨rfl, by rw [hmll]; rfl, rfl, rfl, rfl, rfl, rfl, rfl, rfl, trivial⟩ rfl rfl) ?_
        rintro ⟨i, k, x⟩ ⟨hi, hx, hno⟩
        simp only at hi hx hno
        by_cases hil : i < l.length
        · have hmi := List.getElem_mem hil
          have g1 : (mvE l)[(i : Int).toNat]? = some (mvC l[i]) := by rw [Int.toNat_natCast]; exact mvE_get hil
          have h6 := hmk _ hmi
          have h8 := hW _ hmi x hx
          by_cases hb : 0 < wp g (madeF w' l[i])
          · have hb2 := decide_eq_true hb
            generalize hmi2 : wp g (madeF w' l[i]) = q2 at h8 hb
            generalize madeF w' l[i] = w3 at h6 h8
            (repeat' ((conv => whnf); first | refine CondVC.t ?_ | refine CondVC.f ?_ | refine CondVC.dec (fun h => ?_) (fun h => ?_) | refine CondVC.ndec (fun h => ?_) (fun h => ?_) | refine CondVC.mk (fun h => ?_) (fun h => ?_) | refine ArVC.i64 (by first | omega | (simp only; omega)) ?_ | refine SideVC.mk (by first | omega | decide | (simp only; omega) | (simp [slS]; done) | (simp [slS]; omega) | (simp only [byteE_len, mvE_len, strE_len, intE_len, esC_len, List.length_cons, List.length_nil, List.length_append, List.length_replicate, List.length_set, Int.toNat_natCast, and_true] at *; omega)) ?_ | refine LoopN.go ?_ | exact trivial | refine AltVC.mk ?_ ?_ | refine HeldVC.mk rfl ?_ | refine LoadVC.mk _ g1 ?_ | refine SideVC.mk (by rw [hmll]; omega) ?_ | refine CallVC.pure h6 rfl ?_ | (refine CallVC.ex [18, 3001, 3002] rfl h8 ?_; intro x' hx'; refine ⟨rfl, ?_⟩) | refine OpVC.more tt_ok ?_ | refine RestVC.ext tt_ok ?_)); all_goals (conv => whnf)
            all_goals first
              | (exfalso; omega)
              | exact ⟨(i + 1, i, x'), ⟨by omega, hx'.1, fun j hj h hq => ⟨by simp only; omega, by simp only; omega, fun _ => hb2⟩⟩, by simp only; omega, Sub.mk [(3001, 3011), (3002, 3012)] _ ⟨rfl, rfl, rfl, rfl, rfl, rfl, rfl, rfl, rfl, trivial⟩ rfl rfl⟩
          · have hb2 := decide_eq_false hb
            generalize hmi2 : wp g (madeF w' l[i]) = q2 at h8 hb
            generalize madeF w' l[i] = w3 at h6 h8
            (repeat' ((conv => whnf); first | refine CondVC.t ?_ | refine CondVC.f ?_ | refine CondVC.dec (fun h => ?_) (fun h => ?_) | refine CondVC.ndec (fun h => ?_) (fun h => ?_) | refine CondVC.mk (fun h => ?_) (fun h => ?_) | refine ArVC.i64 (by first | omega | (simp only; omega)) ?_ | refine SideVC.mk (by first | omega | decide | (simp only; omega) | (simp [slS]; done) | (simp [slS]; omega) | (simp only [byteE_len, mvE_len, strE_len, intE_len, esC_len, List.length_cons, List.length_nil, List.length_append, List.length_replicate, List.length_set, Int.toNat_natCast, and_true] at *; omega)) ?_ | refine LoopN.go ?_ | exact trivial | refine AltVC.mk ?_ ?_ | refine HeldVC.mk rfl ?_ | refine LoadVC.mk _ g1 ?_ | refine SideVC.mk (by rw [hmll]; omega) ?_ | refine CallVC.pure h6 rfl ?_ | (refine CallVC.ex [18, 3001, 3002] rfl h8 ?_; intro x' hx'; refine ⟨rfl, ?_⟩) | refine OpVC.more tt_ok ?_ | refine RestVC.ext tt_ok ?_)); all_goals (conv => whnf)
            all_goals first
              | (exfalso; omega)
              | exact ⟨(i + 1, k, x'), ⟨by omega, hx'.1, fun j hj h hq => by
                  by_cases e : j = i
                  · subst e; rw [hb2] at hq; cases hq
                  · obtain ⟨a1, a2, a3⟩ := hno j hj (by simp only at h; omega) hq
                    exact ⟨by simp only at a1 ⊢; omega, a2, a3⟩⟩, by simp only; omega, Sub.mk [(3001, 3011), (3002, 3012)] _ ⟨rfl, rfl, rfl, rfl, rfl, rfl, rfl, rfl, rfl, trivial⟩ rfl rfl⟩
        · obtain ⟨j, hj, hq⟩ := hsome
          obtain ⟨a1, a2, a3⟩ := hno j hj (by omega) hq
          have hkl : k < l.length := by omega
          have em := hpk k hkl (a3 hkl) (fun j' hj' hkj => by
            cases hc : decide (0 < wp g (madeF w' l[j'])) with
            | false => rfl
            | true =>
              have := (hno j' hj' (by omega) hc).2.1
              omega)
          have g1 : (mvE l)[(k : Int).toNat]? = some (mvC l[k]) := by rw [Int.toNat_natCast]; exact mvE_get hkl
          rw [← em] at g1
          (repeat' ((conv => whnf); first | refine CondVC.t ?_ | refine CondVC.f ?_ | refine CondVC.dec (fun h => ?_) (fun h => ?_) | refine CondVC.ndec (fun h => ?_) (fun h => ?_) | refine CondVC.mk (fun h => ?_) (fun h => ?_) | refine ArVC.i64 (by first | omega | (simp only; omega)) ?_ | refine SideVC.mk (by first | omega | decide | (simp only; omega) | (simp [slS]; done) | (simp [slS]; omega) | (simp only [byteE_len, mvE_len, strE_len, intE_len, esC_len, List.length_cons, List.length_nil, List.length_append, List.length_replicate, List.length_set, Int.toNat_natCast, and_true] at *; omega)) ?_ | refine LoopN.go ?_ | exact trivial | refine AltVC.mk ?_ ?_ | refine HeldVC.mk rfl ?_ | refine LoadVC.mk _ g1 ?_ | refine SideVC.mk (by rw [hmll]; omega) ?_ | refine CallVC.pure hmkm rfl ?_ | refine SideVC.mk (by simp only [mvE_len, List.length_cons, List.length_nil] at *; omega) ?_ | refine OpVC.more tt_ok ?_ | refine RestVC.ext tt_ok ?_)); all_goals (conv => whnf)
          all_goals first
            | (exfalso; omega)
            | exact ⟨(w2, out ++ [m], x), ⟨by simp only; omega, hokm, hlm, hpm, by simp only [List.append_assoc]; exact hout, hx⟩, hway, Sub.mk [(1021, 56)] _ ⟨rfl, rfl, rfl, rfl, trivial⟩ (by simp only [hm2]; rfl) rfl⟩
  · have hq0 : wp g w = 0 := by omega
    rw [decide_eq_false hp, if_neg Bool.false_ne_true]
    rw [hq0] at h5
    refine Spec.of_wpx tt_ok Try.func77 (by kernel_rfl) rfl ?_
    (repeat' ((conv => whnf); first | refine CondVC.t ?_ | refine CondVC.f ?_ | refine CondVC.dec (fun h => ?_) (fun h => ?_) | refine CondVC.ndec (fun h => ?_) (fun h => ?_) | refine CondVC.mk (fun h => ?_) (fun h => ?_) | refine ArVC.i64 (by first | omega | (simp only; omega)) ?_ | refine SideVC.mk (by first | omega | decide | (simp only; omega) | (simp [slS]; done) | (simp [slS]; omega) | (simp only [byteE_len, mvE_len, strE_len, intE_len, esC_len, List.length_cons, List.length_nil, List.length_append, List.length_replicate, List.length_set, Int.toNat_natCast, and_true] at *; omega)) ?_ | refine LoopN.go ?_ | exact trivial | refine AltVC.mk ?_ ?_ | refine HeldVC.mk rfl ?_ | refine CallVC.pure h2 rfl ?_ | (refine CallVC.nil 2001 9 1 [.c (.ptr 18 0), .c (.str w)] [(18, .box 48 [.sl 2001, .val (.slice none 0 0)])] rfl rfl rfl ?_; refine CallVC.nil 2002 3 1 [.c (.ptr 18 0), .c (.str w)] [(2001, .sl 9 1 []), (18, .box 48 [.sl 2001, .sl 2002])] rfl rfl rfl ?_; refine CallVC.ex [18, 2001, 2002] rfl h5 ?_; intro x1 hx1; refine ⟨rfl, ?_⟩) | refine OpVC.more tt_ok ?_ | refine RestVC.ext tt_ok ?_)); all_goals (conv => whnf)
    all_goals exact RetVC.nil 1001 66 2 [.c (.sl 1001), vb false] [(18, .box 48 [.sl 2011, .sl 2012]), (2011, .sl 9 1 (strE x1.1)), (2012, .sl 3 1 (intE x1.2))] rfl rfl rfl (RetVC.res rfl rfl)

theorem exchL_no {x y z : Int} {last : Bool} (h : numsF x y z 8 = false) : exchOk x y z = false ∧ exchL last x y z = [] := by
  have e : exchOk x y z = false := by simp [exchOk, h]
  exact ⟨e, by unfold exchL; rw [e, if_neg Bool.false_ne_true]⟩
theorem exchL_len (last : Bool) (x y z : Int) : (exchL last x y z).length ≤ 64 := by
  unfold exchL
  split
  · rename_i h
    simp only [exchOk, Bool.and_eq_true] at h
    obtain ⟨a, b, c, rfl, rfl, rfl, hge, hle⟩ := nums_cast h.1
    simp only [Int.toNat_natCast]
    have h1 := exchF_len last (lastF (firstF a b c)) _ (firstF a b c) rfl
    have h2 := wayF_le (firstF a b c)
    have h4 := firstF_len a b c
    have h3 : (firstF a b c).length * (firstF a b c).length ≤ 8 * 8 := Nat.mul_le_mul (by omega) (by omega)
    omega
  · simp

end Go.Proofs.Ytblihaicbhdbdaa.X
