/- How many lines there are with each outcome: the program's walk. No condition beyond each statement's. -/
import Derived.Test.YtblihaicbhdbdaaArr
import Derived.Test.YtblihaicbhdbdaaEdge
namespace Go.Proofs.Ytblihaicbhdbdaa.X.A3
open Go.Proofs
set_option maxRecDepth 100000
set_option linter.unusedVariables false
set_option linter.unusedSimpArgs false
def tt : Ty := (101, ⟨.other, 3, 24, true, [.int .i64 0, .int .i64 0, .int .i64 0]⟩) :: X.tt
theorem tyArr : TI.ok Try.prog 101 ⟨.other, 3, 24, true, [.int .i64 0, .int .i64 0, .int .i64 0]⟩ := ⟨by show (Try.prog.underlying 101).isSome = true; kernel_rfl, ⟨_, rfl, rfl, rfl, _, rfl, rfl⟩, rfl, ⟨_, _, rfl, rfl, rfl⟩⟩
theorem tt_ok : TyOk Try.prog tt := fun p hp => by
  rcases List.mem_cons.1 hp with h | h
  · rw [h]; exact tyArr
  · exact X.tt_ok p h
def i64c (n : Int) : C := .int .i64 n
theorem arr3 : Arr3 Try.prog 101 3 := ⟨by kernel_rfl, by kernel_rfl, ⟨_, rfl, rfl⟩⟩
theorem arrG : Try.prog.eqGuardType Try.prog.depth 101 = false := by kernel_rfl

theorem cloneB_spec (w : Tx) (hl : w.length ≤ 1000000) : Spec Try.prog 82 [.c (.sl 1000)] [(1000, .sl 5 1 (byteE w))]
    (isRes [.c (.sl 1001)] [(1000, .sl 5 1 (byteE w)), (1001, .sl 5 1 (byteE w))]) := by
  have hml := byteE_len w
  refine Spec.of_wpx tt_ok Try.func82 (by kernel_rfl) rfl ?_
  (repeat' ((conv => whnf); first | refine CondVC.t ?_ | refine CondVC.f ?_ | refine CondVC.dec (fun h => ?_) (fun h => ?_) | refine CondVC.ndec (fun h => ?_) (fun h => ?_) | refine CondVC.mk (fun h => ?_) (fun h => ?_) | refine ArVC.i64 (by first | omega | (simp only; omega)) ?_ | refine SideVC.mk (by first | omega | decide | (simp only; omega) | (simp [slS]; done) | (simp [slS]; omega) | (simp only [byteE_len, mvE_len, strE_len, intE_len, esC_len, List.length_cons, List.length_nil, List.length_append, List.length_replicate, List.length_set, Int.toNat_natCast, and_true] at *; omega)) ?_ | refine LoopN.go ?_ | exact trivial | refine AltVC.mk ?_ ?_ | refine HeldVC.mk rfl ?_ | refine NilVC.mk (fun he => ?_) ?_ | refine SideVC.mk (by rw [hml]; simp only [List.length_nil]; omega) ?_ | refine OpVC.more tt_ok ?_ | refine RestVC.ext tt_ok ?_)); all_goals (conv => whnf)
  all_goals first
    | exact RetVC.ren [(1001, 7)] [.c (.sl 1001)] [(1000, .sl 5 1 (byteE w)), (1001, .sl 5 1 (byteE w))] rfl rfl rfl ⟨rfl, rfl⟩
    | (have e : w = [] := (by cases w with | nil => rfl | cons a b => simp [byteE] at he)
       subst e
       exact RetVC.nil 1001 5 1 [.c (.sl 1001)] [(1000, .sl 5 1 (byteE []))] rfl rfl rfl (RetVC.res rfl rfl))

theorem each_spec (w : Tx) (hw : w.length ≤ 1000) (c : Nat → Int) (hc : ∀ k, 0 ≤ c k ∧ c k ≤ 100000000000) (es : List (C × V)) (hes : okWin es) :
    Spec Try.prog 57 [.c (.str w), .c (.ptr 1002 0), .c (.ptr 1003 0)] [(1002, .box 38 [.sl 1004]), (1004, .sl 3 1 (cR c)), (1003, .box 77 [.mp 1005]), (1005, .ext (.mp none es))]
      (exRes okWin (fun _ => []) (fun es' => [(1002, .box 38 [.sl 1004]), (1004, .sl 3 1 (cR fun k => if outI w = k then c k + 1 else c k)), (1003, .box 77 [.mp 1005]), (1005, .ext (.mp none es'))])) := by
  have h1 := Spec.renE [(1000, 1005)] [(1005, 1000)] (outcomeE_spec w hw es hes) (fun _ => rfl) (fun _ => rfl) rfl
  rw [outI_S] at h1
  have hlt := outI_lt w
  generalize outI w = o at *
  have hrl := cR_len c
  have g0 : (cR c)[(o : Int).toNat]? = some [.int .i64 (c o)] := by rw [Int.toNat_natCast]; exact cR_get _ hlt
  have hco := hc o
  have hfin : (cR c).set o [.int .i64 (c o + 1)] = cR fun k => if o = k then c k + 1 else c k := by
    rw [cR_set _ _ hlt]
    refine cR_congr fun k hk => ?_
    by_cases e : k = o
    · subst e; simp
    · rw [if_neg e, if_neg (Ne.symm e)]
  have hi : Spec Try.prog 58 [.c (.str [49, 50, 70, 84]), .c (.str (outS o))] [] (isRes [.c (.int .i64 o)] []) := by
    match o, hlt with
    | 0, _ => exact index_spec1 [49, 50, 70, 84] 49
    | 1, _ => exact index_spec1 [49, 50, 70, 84] 50
    | 2, _ => exact index_spec1 [49, 50, 70, 84] 70
    | 3, _ => exact index_spec1 [49, 50, 70, 84] 84
  generalize outS o = so at *
  rw [← hfin]
  refine Spec.of_wpx tt_ok Try.func57 (by kernel_rfl) rfl ?_
  (repeat' ((conv => whnf); first | refine CondVC.t ?_ | refine CondVC.f ?_ | refine CondVC.dec (fun h => ?_) (fun h => ?_) | refine CondVC.ndec (fun h => ?_) (fun h => ?_) | refine CondVC.mk (fun h => ?_) (fun h => ?_) | refine ArVC.i64 (by first | omega | (simp only; omega)) ?_ | refine SideVC.mk (by first | omega | decide | (simp only; omega) | (simp [slS]; done) | (simp [slS]; omega) | (simp only [byteE_len, mvE_len, strE_len, intE_len, esC_len, List.length_cons, List.length_nil, List.length_append, List.length_replicate, List.length_set, Int.toNat_natCast, and_true] at *; omega)) ?_ | refine LoopN.go ?_ | exact trivial | refine AltVC.mk ?_ ?_ | refine HeldVC.mk rfl ?_ | refine DrawVC.tree (id := 0) tt_ok [1002, 1003] tx57_0 (by kernel_rfl) (by kernel_rfl) rfl ?_ | refine CallVC.pure hi rfl ?_ | refine LoadVC.mk _ g0 ?_ | refine SideVC.mk (by rw [hrl]; omega) ?_ | (refine CallVC.ex [1005] rfl h1 ?_; intro es2 hes2; refine ⟨rfl, ?_⟩) | refine OpVC.more tt_ok ?_ | refine RestVC.ext tt_ok ?_)); all_goals (conv => whnf)
  all_goals first
    | (exfalso; omega)
    | exact RetVC.mk rfl ⟨es2, hes2, rfl, by simp only [Int.toNat_natCast]; rfl⟩

def aM (es : List (C × V)) (c : Nat → Int) (w : Tx) : Mem := [(1000, .box 81 [.fn 57 [1002, 1003]]), (1001, .box 102 [.fn 81 [1000, 1001]]), (1002, .box 38 [.sl 1004]), (1004, .sl 3 1 (cR c)), (1003, .box 77 [.mp 1005]), (1005, .ext (.mp none es)), (1006, .sl 5 1 (byteE w))]
def aR (es : List (C × V)) (c : Nat → Int) : Mem := [(1000, .box 81 [.fn 57 [1002, 1003]]), (1001, .box 102 [.fn 81 [1000, 1001]]), (1002, .box 38 [.sl 1004]), (1004, .sl 3 1 (cR c)), (1003, .box 77 [.mp 1005]), (1005, .ext (.mp none es))]
def PutS (n : Nat) (w : Tx) (t g f : Nat) : Prop := ∀ (x y z : Int), x = t → y = g → z = f → ∀ (c : Nat → Int) (es : List (C × V)), (∀ k, 0 ≤ c k ∧ c k + ((3 ^ n : Nat) : Int) ≤ 100000000000) → okWin es →
  Spec Try.prog 81 [.c (.sl 1006), .agg [i64c y, i64c z, i64c x], .c (.ptr 1000 0), .c (.ptr 1001 0)] (aM es c w) (exRes okWin (fun _ => []) (fun es' => aR es' (fun k => c k + (cK k n w t g f : Nat))))
theorem putLeaf (w : Tx) (hw : w.length ≤ 10) : PutS 0 w 0 0 0 := by
  intro x y z ex ey ez c es hc hes
  subst ex ey ez
  have h1 := each_spec w (by omega) c (fun k => by have := hc k; omega) es hes
  have hend : cR (fun k => c k + (cK k 0 w 0 0 0 : Nat)) = cR (fun k => if outI w = k then c k + 1 else c k) := cR_congr fun k hk => by
    show c k + ((if outI w = k then 1 else 0 : Nat) : Int) = _
    split <;> simp
  unfold aM aR
  simp only [hend]
  generalize (cR (fun k => if outI w = k then c k + 1 else c k)) = R at *
  refine Spec.of_wpx tt_ok Try.func81 (by kernel_rfl) rfl ?_
  (repeat' ((conv => whnf); first | refine CondVC.t ?_ | refine CondVC.f ?_ | refine CondVC.dec (fun h => ?_) (fun h => ?_) | refine CondVC.ndec (fun h => ?_) (fun h => ?_) | refine CondVC.mk (fun h => ?_) (fun h => ?_) | refine ArVC.i64 (by first | omega | (simp only; omega)) ?_ | refine SideVC.mk (by first | omega | decide | (simp only; omega) | (simp [slS]; done) | (simp [slS]; omega) | (simp only [byteE_len, mvE_len, strE_len, intE_len, esC_len, List.length_cons, List.length_nil, List.length_append, List.length_replicate, List.length_set, Int.toNat_natCast, and_true] at *; omega)) ?_ | refine LoopN.go ?_ | exact trivial | refine AltVC.mk ?_ ?_ | refine HeldVC.mk rfl ?_ | refine RestVC2.buildArr [.int .i64 0, .int .i64 0, .int .i64 0] rfl rfl (fun ρ => by kernel_rfl) ?_ | refine RestVC2.eqArr arr3 arrG true rfl rfl rfl (by simp) ?_ | refine BytesVC.mk w rfl ?_ | (refine CallVC.ex [1002, 1004, 1003, 1005] rfl h1 ?_; intro es2 hes2; refine ⟨rfl, ?_⟩) | refine OpVC.more tt_ok ?_ | refine RestVC.ext tt_ok ?_)); all_goals (conv => whnf)
  all_goals first
    | (exfalso; omega)
    | exact RetVC.mk rfl ⟨es2, hes2, rfl, rfl⟩
set_option maxHeartbeats 4000000 in
theorem put_spec : ∀ (n : Nat) (w : Tx) (t g f : Nat), t + g + f = n → w.length + n ≤ 10 → PutS n w t g f
  | 0, w, t, g, f, hn, hw => by
    obtain rfl : t = 0 := by omega
    obtain rfl : g = 0 := by omega
    obtain rfl : f = 0 := by omega
    exact putLeaf w (by omega)
  | n + 1, w, t, g, f, hn, hw => by
    intro x y z ex ey ez c es hc hes
    have hb3 : (3 : Nat) ^ n ≤ 59049 := by
      have : (3 : Nat) ^ n ≤ 3 ^ 10 := Nat.pow_le_pow_right (by decide) (by omega)
      exact this
    have hr : ∀ b : UInt8, ∀ t' g' f', t' + g' + f' = n → PutS n (w ++ [b]) t' g' f' := fun b t' g' f' h => put_spec n (w ++ [b]) t' g' f' h (by rw [List.length_append, List.length_cons, List.length_nil]; omega)
    have kG := fun k => cK_le k n (w ++ [46]) t (g - 1) f
    have kF := fun k => cK_le k n (w ++ [70]) t g (f - 1)
    obtain ⟨c1, hc1⟩ : ∃ c1 : Nat → Int, c1 = fun k => c k + ((if 0 < g then cK k n (w ++ [46]) t (g - 1) f else 0 : Nat) : Int) := ⟨_, rfl⟩
    obtain ⟨c2, hc2⟩ : ∃ c2 : Nat → Int, c2 = fun k => c1 k + ((if 0 < f then cK k n (w ++ [70]) t g (f - 1) else 0 : Nat) : Int) := ⟨_, rfl⟩
    obtain ⟨c3, hc3⟩ : ∃ c3 : Nat → Int, c3 = fun k => c2 k + ((if 0 < t then cK k n (w ++ [84]) (t - 1) g f else 0 : Nat) : Int) := ⟨_, rfl⟩
    have hfin : cR (fun k => c k + (cK k (n + 1) w t g f : Nat)) = cR c3 := cR_congr fun k _ => by
      rw [hc3, hc2, hc1]
      show c k + (((if 0 < t then cK k n (w ++ [84]) (t - 1) g f else 0) + (if 0 < g then cK k n (w ++ [46]) t (g - 1) f else 0) + (if 0 < f then cK k n (w ++ [70]) t g (f - 1) else 0) : Nat) : Int) = _
      simp only [Int.natCast_add]
      omega
    have hpw : (3 : Nat) ^ (n + 1) = 3 ^ n * 3 := Nat.pow_succ 3 n
    rw [hpw] at hc
    unfold PutS at hr
    generalize (3 : Nat) ^ n = p3 at *
    have b0 : ∀ k, 0 ≤ c k ∧ c k + (p3 : Int) ≤ 100000000000 := fun k => by have h1 := hc k; omega
    have b1 : ∀ k, 0 ≤ c1 k ∧ c1 k + (p3 : Int) ≤ 100000000000 := fun k => by
      have h1 := hc k
      have h2 := kG k
      rw [hc1]
      simp only
      split <;> omega
    have b2 : ∀ k, 0 ≤ c2 k ∧ c2 k + (p3 : Int) ≤ 100000000000 := fun k => by
      have h1 := hc k
      have h2 := kF k
      have h3 := kG k
      rw [hc2, hc1]
      simp only
      split <;> split <;> omega
    have eG : 0 < g → cR (fun k => c k + (cK k n (w ++ [46]) t (g - 1) f : Nat)) = cR c1 := fun ht => cR_congr fun k _ => by rw [hc1]; simp only [if_pos ht]
    have eF : 0 < f → cR (fun k => c1 k + (cK k n (w ++ [70]) t g (f - 1) : Nat)) = cR c2 := fun ht => cR_congr fun k _ => by rw [hc2]; simp only [if_pos ht]
    have eT : 0 < t → cR (fun k => c2 k + (cK k n (w ++ [84]) (t - 1) g f : Nat)) = cR c3 := fun ht => cR_congr fun k _ => by rw [hc3]; simp only [if_pos ht]
    have nG : ¬ 0 < g → cR c = cR c1 := fun ht => cR_congr fun k _ => by rw [hc1]; simp only [if_neg ht]; omega
    have nF : ¬ 0 < f → cR c1 = cR c2 := fun ht => cR_congr fun k _ => by rw [hc2]; simp only [if_neg ht]; omega
    have nT : ¬ 0 < t → cR c2 = cR c3 := fun ht => cR_congr fun k _ => by rw [hc3]; simp only [if_neg ht]; omega
    have bE : ∀ b : UInt8, byteE (w ++ [b]) = byteE w ++ [[C.int .u8 (b.toNat : Nat)]] := fun b => by simp [byteE, byteC]
    have hG : 0 < g → ∀ es, okWin es → Spec _ _ _ _ _ := fun hg es hes => by
      have h := hr 46 t (g - 1) f (by omega) x (y - 1) z ex (by omega) ez c es b0 hes
      unfold aM aR at h
      simp only [eG hg, bE] at h
      exact Spec.renE [(1006, 34)] [(34, 1006)] h (fun _ => rfl) (fun _ => rfl) rfl
    have hF : 0 < f → ∀ es, okWin es → Spec _ _ _ _ _ := fun hg es hes => by
      have h := hr 70 t g (f - 1) (by omega) x y (z - 1) ex ey (by omega) c1 es b1 hes
      unfold aM aR at h
      simp only [eF hg, bE] at h
      exact Spec.renE [(1006, 34)] [(34, 1006)] h (fun _ => rfl) (fun _ => rfl) rfl
    have hT : 0 < t → ∀ es, okWin es → Spec _ _ _ _ _ := fun hg es hes => by
      have h := hr 84 (t - 1) g f (by omega) (x - 1) y z (by omega) ey ez c2 es b2 hes
      unfold aM aR at h
      simp only [eT hg, bE] at h
      exact Spec.renE [(1006, 34)] [(34, 1006)] h (fun _ => rfl) (fun _ => rfl) rfl
    clear hc1 hc2 hc3
    unfold aM aR
    simp only [hfin]
    clear hfin hr eG eF eT
    have hcl := Spec.ren [(1000, 1006), (1001, 4030)] [(1006, 1000), (4030, 1001)] (cloneB_spec w (by omega)) rfl rfl rfl
    have hbl := byteE_len w
    have hne : ¬ (y = 0 ∧ z = 0 ∧ x = 0) := by omega
    obtain ⟨cc, hcc⟩ : ∃ cc : Nat → (Nat → Int), cc = fun i => if i = 0 then c else if i = 1 then c1 else if i = 2 then c2 else c3 := ⟨_, rfl⟩
    have q0 : cc 0 = c := by rw [hcc]; rfl
    have q1 : cc 1 = c1 := by rw [hcc]; rfl
    have q2 : cc 2 = c2 := by rw [hcc]; rfl
    have q3 : cc 3 = c3 := by rw [hcc]; rfl
    clear hcc
    refine Spec.of_wpx tt_ok Try.func81 (by kernel_rfl) rfl ?_
    (repeat' ((conv => whnf); first | refine CondVC.t ?_ | refine CondVC.f ?_ | refine CondVC.dec (fun h => ?_) (fun h => ?_) | refine CondVC.ndec (fun h => ?_) (fun h => ?_) | refine CondVC.mk (fun h => ?_) (fun h => ?_) | refine ArVC.i64 (by first | omega | (simp only; omega)) ?_ | refine SideVC.mk (by first | omega | decide | (simp only; omega) | (simp [slS]; done) | (simp [slS]; omega) | (simp only [byteE_len, mvE_len, strE_len, intE_len, esC_len, List.length_cons, List.length_nil, List.length_append, List.length_replicate, List.length_set, Int.toNat_natCast, and_true] at *; omega)) ?_ | refine LoopN.go ?_ | exact trivial | refine AltVC.mk ?_ ?_ | refine HeldVC.mk rfl ?_ | refine RestVC2.buildArr [.int .i64 0, .int .i64 0, .int .i64 0] rfl rfl (fun ρ => by kernel_rfl) ?_ | refine RestVC2.eqArr arr3 arrG false rfl rfl rfl (decide_eq_false hne) ?_ | refine OpVC.more tt_ok ?_ | refine RestVC.ext tt_ok ?_)); all_goals (conv => whnf)
    all_goals try (exfalso; omega)
    refine LoopVC.mk (G := Nat × List (C × V)) (fun γ => ⟨[(15, .v (i64 γ.1)), (5, .v (.c (.ptr 5 0))), (3, .v (.c (.ptr 1001 0))), (2, .v (.c (.ptr 1000 0))), (0, .v (.c (.sl 1006)))],
        (5, .box 101 [i64c y, i64c z, i64c x]) :: aM γ.2 (cc γ.1) w⟩)
      (fun γ => γ.1 ≤ 3 ∧ okWin γ.2) (fun γ => 3 - γ.1) (0, es) ⟨Nat.zero_le _, hes⟩
      (Sub.mk [] _ ⟨rfl, rfl, rfl, rfl, rfl, trivial⟩ (by simp only [q0]; rfl) rfl) ?_
    rintro ⟨i, es⟩ ⟨hi, hes⟩
    simp only at hi hes
    unfold aM
    have hcs : i = 0 ∨ i = 1 ∨ i = 2 ∨ i = 3 := by omega
    rcases hcs with rfl | rfl | rfl | rfl
    · simp only [q0]
      by_cases hg : 0 < g
      · have hG := hG hg es hes
        (repeat' ((conv => whnf); first | refine CondVC.t ?_ | refine CondVC.f ?_ | refine CondVC.dec (fun h => ?_) (fun h => ?_) | refine CondVC.ndec (fun h => ?_) (fun h => ?_) | refine CondVC.mk (fun h => ?_) (fun h => ?_) | refine ArVC.i64 (by first | omega | (simp only; omega)) ?_ | refine SideVC.mk (by first | omega | decide | (simp only; omega) | (simp [slS]; done) | (simp [slS]; omega) | (simp only [byteE_len, mvE_len, strE_len, intE_len, esC_len, List.length_cons, List.length_nil, List.length_append, List.length_replicate, List.length_set, Int.toNat_natCast, and_true] at *; omega)) ?_ | refine LoopN.go ?_ | exact trivial | refine AltVC.mk ?_ ?_ | refine HeldVC.mk rfl ?_ | refine RestVC2.indexArr arr3 rfl rfl rfl (by decide) ?_ | refine CallVC.res [1006] rfl hcl rfl ?_ | refine SideVC.mk (by simp only [hbl, List.length_append, List.length_cons, List.length_nil]; omega) ?_ | refine DrawVC.tree (id := 9) tt_ok [7, 1001] tr81_9 (by kernel_rfl) (by kernel_rfl) rfl ?_ | (refine CallVC.ex [1000, 1001, 1002, 1004, 1003, 1005, 34] rfl hG ?_; intro es3 hes3; refine ⟨rfl, ?_⟩) | refine OpVC.more tt_ok ?_ | refine RestVC.ext tt_ok ?_)); all_goals (conv => whnf)
        all_goals first
          | (exfalso; omega)
          | exact ⟨(1, es3), ⟨by simp only; omega, hes3⟩, by simp only; omega, Sub.mk [] _ ⟨rfl, rfl, rfl, rfl, rfl, trivial⟩ (by simp only [aM, q1]; rfl) rfl⟩
      · rw [nG hg]
        (repeat' ((conv => whnf); first | refine CondVC.t ?_ | refine CondVC.f ?_ | refine CondVC.dec (fun h => ?_) (fun h => ?_) | refine CondVC.ndec (fun h => ?_) (fun h => ?_) | refine CondVC.mk (fun h => ?_) (fun h => ?_) | refine ArVC.i64 (by first | omega | (simp only; omega)) ?_ | refine SideVC.mk (by first | omega | decide | (simp only; omega) | (simp [slS]; done) | (simp [slS]; omega) | (simp only [byteE_len, mvE_len, strE_len, intE_len, esC_len, List.length_cons, List.length_nil, List.length_append, List.length_replicate, List.length_set, Int.toNat_natCast, and_true] at *; omega)) ?_ | refine LoopN.go ?_ | exact trivial | refine AltVC.mk ?_ ?_ | refine HeldVC.mk rfl ?_ | refine RestVC2.indexArr arr3 rfl rfl rfl (by decide) ?_ | refine OpVC.more tt_ok ?_ | refine RestVC.ext tt_ok ?_)); all_goals (conv => whnf)
        all_goals first
          | (exfalso; omega)
          | exact ⟨(1, es), ⟨by simp only; omega, hes⟩, by simp only; omega, Sub.mk [] _ ⟨rfl, rfl, rfl, rfl, rfl, trivial⟩ (by simp only [aM, q1]; rfl) rfl⟩
    · simp only [q1]
      by_cases hg : 0 < f
      · have hF := hF hg es hes
        (repeat' ((conv => whnf); first | refine CondVC.t ?_ | refine CondVC.f ?_ | refine CondVC.dec (fun h => ?_) (fun h => ?_) | refine CondVC.ndec (fun h => ?_) (fun h => ?_) | refine CondVC.mk (fun h => ?_) (fun h => ?_) | refine ArVC.i64 (by first | omega | (simp only; omega)) ?_ | refine SideVC.mk (by first | omega | decide | (simp only; omega) | (simp [slS]; done) | (simp [slS]; omega) | (simp only [byteE_len, mvE_len, strE_len, intE_len, esC_len, List.length_cons, List.length_nil, List.length_append, List.length_replicate, List.length_set, Int.toNat_natCast, and_true] at *; omega)) ?_ | refine LoopN.go ?_ | exact trivial | refine AltVC.mk ?_ ?_ | refine HeldVC.mk rfl ?_ | refine RestVC2.indexArr arr3 rfl rfl rfl (by decide) ?_ | refine CallVC.res [1006] rfl hcl rfl ?_ | refine SideVC.mk (by simp only [hbl, List.length_append, List.length_cons, List.length_nil]; omega) ?_ | refine DrawVC.tree (id := 9) tt_ok [7, 1001] tr81_9 (by kernel_rfl) (by kernel_rfl) rfl ?_ | (refine CallVC.ex [1000, 1001, 1002, 1004, 1003, 1005, 34] rfl hF ?_; intro es3 hes3; refine ⟨rfl, ?_⟩) | refine OpVC.more tt_ok ?_ | refine RestVC.ext tt_ok ?_)); all_goals (conv => whnf)
        all_goals first
          | (exfalso; omega)
          | exact ⟨(2, es3), ⟨by simp only; omega, hes3⟩, by simp only; omega, Sub.mk [] _ ⟨rfl, rfl, rfl, rfl, rfl, trivial⟩ (by simp only [aM, q2]; rfl) rfl⟩
      · rw [nF hg]
        (repeat' ((conv => whnf); first | refine CondVC.t ?_ | refine CondVC.f ?_ | refine CondVC.dec (fun h => ?_) (fun h => ?_) | refine CondVC.ndec (fun h => ?_) (fun h => ?_) | refine CondVC.mk (fun h => ?_) (fun h => ?_) | refine ArVC.i64 (by first | omega | (simp only; omega)) ?_ | refine SideVC.mk (by first | omega | decide | (simp only; omega) | (simp [slS]; done) | (simp [slS]; omega) | (simp only [byteE_len, mvE_len, strE_len, intE_len, esC_len, List.length_cons, List.length_nil, List.length_append, List.length_replicate, List.length_set, Int.toNat_natCast, and_true] at *; omega)) ?_ | refine LoopN.go ?_ | exact trivial | refine AltVC.mk ?_ ?_ | refine HeldVC.mk rfl ?_ | refine RestVC2.indexArr arr3 rfl rfl rfl (by decide) ?_ | refine OpVC.more tt_ok ?_ | refine RestVC.ext tt_ok ?_)); all_goals (conv => whnf)
        all_goals first
          | (exfalso; omega)
          | exact ⟨(2, es), ⟨by simp only; omega, hes⟩, by simp only; omega, Sub.mk [] _ ⟨rfl, rfl, rfl, rfl, rfl, trivial⟩ (by simp only [aM, q2]; rfl) rfl⟩
    · simp only [q2]
      by_cases hg : 0 < t
      · have hT := hT hg es hes
        (repeat' ((conv => whnf); first | refine CondVC.t ?_ | refine CondVC.f ?_ | refine CondVC.dec (fun h => ?_) (fun h => ?_) | refine CondVC.ndec (fun h => ?_) (fun h => ?_) | refine CondVC.mk (fun h => ?_) (fun h => ?_) | refine ArVC.i64 (by first | omega | (simp only; omega)) ?_ | refine SideVC.mk (by first | omega | decide | (simp only; omega) | (simp [slS]; done) | (simp [slS]; omega) | (simp only [byteE_len, mvE_len, strE_len, intE_len, esC_len, List.length_cons, List.length_nil, List.length_append, List.length_replicate, List.length_set, Int.toNat_natCast, and_true] at *; omega)) ?_ | refine LoopN.go ?_ | exact trivial | refine AltVC.mk ?_ ?_ | refine HeldVC.mk rfl ?_ | refine RestVC2.indexArr arr3 rfl rfl rfl (by decide) ?_ | refine CallVC.res [1006] rfl hcl rfl ?_ | refine SideVC.mk (by simp only [hbl, List.length_append, List.length_cons, List.length_nil]; omega) ?_ | refine DrawVC.tree (id := 9) tt_ok [7, 1001] tr81_9 (by kernel_rfl) (by kernel_rfl) rfl ?_ | (refine CallVC.ex [1000, 1001, 1002, 1004, 1003, 1005, 34] rfl hT ?_; intro es3 hes3; refine ⟨rfl, ?_⟩) | refine OpVC.more tt_ok ?_ | refine RestVC.ext tt_ok ?_)); all_goals (conv => whnf)
        all_goals first
          | (exfalso; omega)
          | exact ⟨(3, es3), ⟨by simp only; omega, hes3⟩, by simp only; omega, Sub.mk [] _ ⟨rfl, rfl, rfl, rfl, rfl, trivial⟩ (by simp only [aM, q3]; rfl) rfl⟩
      · rw [nT hg]
        (repeat' ((conv => whnf); first | refine CondVC.t ?_ | refine CondVC.f ?_ | refine CondVC.dec (fun h => ?_) (fun h => ?_) | refine CondVC.ndec (fun h => ?_) (fun h => ?_) | refine CondVC.mk (fun h => ?_) (fun h => ?_) | refine ArVC.i64 (by first | omega | (simp only; omega)) ?_ | refine SideVC.mk (by first | omega | decide | (simp only; omega) | (simp [slS]; done) | (simp [slS]; omega) | (simp only [byteE_len, mvE_len, strE_len, intE_len, esC_len, List.length_cons, List.length_nil, List.length_append, List.length_replicate, List.length_set, Int.toNat_natCast, and_true] at *; omega)) ?_ | refine LoopN.go ?_ | exact trivial | refine AltVC.mk ?_ ?_ | refine HeldVC.mk rfl ?_ | refine RestVC2.indexArr arr3 rfl rfl rfl (by decide) ?_ | refine OpVC.more tt_ok ?_ | refine RestVC.ext tt_ok ?_)); all_goals (conv => whnf)
        all_goals first
          | (exfalso; omega)
          | exact ⟨(3, es), ⟨by simp only; omega, hes⟩, by simp only; omega, Sub.mk [] _ ⟨rfl, rfl, rfl, rfl, rfl, trivial⟩ (by simp only [aM, q3]; rfl) rfl⟩
    · simp only [q3]
      (repeat' ((conv => whnf); first | refine CondVC.t ?_ | refine CondVC.f ?_ | refine CondVC.dec (fun h => ?_) (fun h => ?_) | refine CondVC.ndec (fun h => ?_) (fun h => ?_) | refine CondVC.mk (fun h => ?_) (fun h => ?_) | refine ArVC.i64 (by first | omega | (simp only; omega)) ?_ | refine SideVC.mk (by first | omega | decide | (simp only; omega) | (simp [slS]; done) | (simp [slS]; omega) | (simp only [byteE_len, mvE_len, strE_len, intE_len, esC_len, List.length_cons, List.length_nil, List.length_append, List.length_replicate, List.length_set, Int.toNat_natCast, and_true] at *; omega)) ?_ | refine LoopN.go ?_ | exact trivial | refine AltVC.mk ?_ ?_ | refine HeldVC.mk rfl ?_ | refine OpVC.more tt_ok ?_ | refine RestVC.ext tt_ok ?_)); all_goals (conv => whnf)
      all_goals first
        | (exfalso; omega)
        | exact RetVC.mk rfl ⟨es, hes, rfl, rfl⟩
end Go.Proofs.Ytblihaicbhdbdaa.X.A3
