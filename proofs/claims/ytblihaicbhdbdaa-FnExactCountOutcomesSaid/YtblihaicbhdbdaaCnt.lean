/- How many lines there are with each outcome: the reference's and the program's. No condition beyond each statement's. -/
import Derived.Test.YtblihaicbhdbdaaCntF
import Derived.Test.YtblihaicbhdbdaaEdge
namespace Go.Proofs.Ytblihaicbhdbdaa.X
open Go.Proofs
set_option maxRecDepth 100000
set_option linter.unusedVariables false
set_option linter.unusedSimpArgs false

def GaS (n : Nat) (w : Tx) (t g f : Nat) : Prop := ∀ (x y z : Int), x = t → y = g → z = f → ∀ c : Nat → Int, (∀ k, 0 ≤ c k ∧ c k + ((3 ^ n : Nat) : Int) ≤ 100000000000) →
  Spec Try.prog 54 [.c (.str w), i64 x, i64 y, i64 z, .c (.sl 1000)] [(1000, .sl 3 1 (cR c))] (isRes [] [(1000, .sl 3 1 (cR fun k => c k + (cK k n w t g f : Nat)))])
theorem gaLeaf (w : Tx) (hok : w.all okCh = true) (hw : w.length ≤ 10) : GaS 0 w 0 0 0 := by
  intro x y z ex ey ez c hc
  subst ex ey ez
  have hls : okLs [w] := ⟨fun v hv => by simp at hv; rw [hv]; exact hok, by simpa [sumF] using hw, by simp⟩
  have h1 := Spec.ren [(1000, 26)] [(26, 1000)] (gaOutcome_spec [w] hls) rfl rfl rfl
  have e1 : joinF [w] = w := rfl
  rw [e1, outI_S] at h1
  have hlt := outI_lt w
  have hin := fun a (h : a < 4) => outS_inj (a := outI w) (b := a) hlt h
  have hck : ∀ k, (cK k 0 w 0 0 0 : Nat) = if outI w = k then 1 else 0 := fun k => rfl
  generalize outI w = o at *
  have hend : cR (fun k => c k + (cK k 0 w 0 0 0 : Nat)) = cR (fun k => if k = o ∧ k < 4 then c k + 1 else c k) := cR_congr fun k hk => by
    rw [hck k]
    by_cases e : o = k
    · rw [if_pos e, if_pos ⟨e.symm, hk⟩]; rfl
    · rw [if_neg e, if_neg (fun h => e h.1.symm)]; simp
  rw [hend]
  have g0 : ∀ i, i < 4 → ([[C.str [49]], [C.str [50]], [C.str [70]], [C.str [84]]] : List (List C))[i]? = some [.str (outS i)] := fun i hi => by
    match i, hi with
    | 0, _ => rfl
    | 1, _ => rfl
    | 2, _ => rfl
    | 3, _ => rfl
  have hrl := cR_len
  refine Spec.of_wpx tt_ok Try.func54 (by kernel_rfl) rfl ?_
  (repeat' ((conv => whnf); first | refine CondVC.t ?_ | refine CondVC.f ?_ | refine CondVC.dec (fun h => ?_) (fun h => ?_) | refine CondVC.ndec (fun h => ?_) (fun h => ?_) | refine CondVC.mk (fun h => ?_) (fun h => ?_) | refine ArVC.i64 (by first | omega | (simp only; omega)) ?_ | refine SideVC.mk (by first | omega | decide | (simp only; omega) | (simp [slS]; done) | (simp [slS]; omega) | (simp only [byteE_len, mvE_len, strE_len, intE_len, esC_len, List.length_cons, List.length_nil, List.length_append, List.length_replicate, List.length_set, Int.toNat_natCast, and_true] at *; omega)) ?_ | refine LoopN.go ?_ | exact trivial | refine AltVC.mk ?_ ?_ | refine HeldVC.mk rfl ?_ | refine OpVC.more tt_ok ?_ | refine RestVC.ext tt_ok ?_)); all_goals (conv => whnf)
  all_goals try (exfalso; omega)
  refine LoopVC.mk (G := Nat) (fun i => ⟨[(20, .v (i64 i)), (19, .v (i64 4)), (18, .v (.c (.sl 18))), (4, .v (.c (.sl 1000))), (0, .v (.c (.str w)))],
      [(18, .sl 9 1 [[C.str [49]], [C.str [50]], [C.str [70]], [C.str [84]]]), (1000, .sl 3 1 (cR fun k => if k = o ∧ k < i then c k + 1 else c k))]⟩)
    (fun i => i ≤ 4) (fun i => 4 - i) 0 (Nat.zero_le _) (Sub.mk [] _ ⟨rfl, rfl, rfl, rfl, rfl, trivial⟩ (by rw [show (cR fun k => if k = o ∧ k < 0 then c k + 1 else c k) = cR c from cR_congr fun k _ => by simp]; rfl) rfl) ?_
  intro i hi
  by_cases hil : i < 4
  · have gi : ([[C.str [49]], [C.str [50]], [C.str [70]], [C.str [84]]] : List (List C))[(i : Int).toNat]? = some [.str (outS i)] := by rw [Int.toNat_natCast]; exact g0 i hil
    have gc : (cR fun k => if k = o ∧ k < i then c k + 1 else c k)[(i : Int).toNat]? = some [.int .i64 (c i)] := by
      rw [Int.toNat_natCast, cR_get _ hil, if_neg (by omega)]
    have hci := hc i
    have hoi := hin i hil
    by_cases he : o = i
    · have hs : (cR fun k => if k = o ∧ k < i then c k + 1 else c k).set (i : Int).toNat [.int .i64 (c i + 1)] = cR fun k => if k = o ∧ k < i + 1 then c k + 1 else c k := by
        rw [Int.toNat_natCast, cR_set _ _ hil]
        refine cR_congr fun k hk => ?_
        by_cases e : k = i
        · subst e; rw [if_pos rfl, if_pos ⟨he.symm, Nat.lt_succ_self _⟩]
        · rw [if_neg e, if_neg (by omega), if_neg (by omega)]
      have hse : outS o = outS i := hoi.2 he
      generalize outS i = si at *
      generalize outS o = so at *
      have hrl' := hrl (fun k => if k = o ∧ k < i then c k + 1 else c k)
      (repeat' ((conv => whnf); first | refine CondVC.t ?_ | refine CondVC.f ?_ | refine CondVC.dec (fun h => ?_) (fun h => ?_) | refine CondVC.ndec (fun h => ?_) (fun h => ?_) | refine CondVC.mk (fun h => ?_) (fun h => ?_) | refine ArVC.i64 (by first | omega | (simp only; omega)) ?_ | refine SideVC.mk (by first | omega | decide | (simp only; omega) | (simp [slS]; done) | (simp [slS]; omega) | (simp only [byteE_len, mvE_len, strE_len, intE_len, esC_len, List.length_cons, List.length_nil, List.length_append, List.length_replicate, List.length_set, Int.toNat_natCast, and_true] at *; omega)) ?_ | refine LoopN.go ?_ | exact trivial | refine AltVC.mk ?_ ?_ | refine HeldVC.mk rfl ?_ | refine LoadVC.mk _ gi ?_ | refine LoadVC.mk _ gc ?_ | refine SideVC.mk (by rw [hrl']; omega) ?_ | refine SideVC.mk (by simp only [List.length_cons, List.length_nil]; omega) ?_ | refine CallVC.res [26] rfl h1 rfl ?_ | refine OpVC.more tt_ok ?_ | refine RestVC.ext tt_ok ?_)); all_goals (conv => whnf)
      all_goals first
        | (exfalso; omega)
        | exact ⟨i + 1, by omega, by omega, Sub.mk [] _ ⟨rfl, rfl, rfl, rfl, rfl, trivial⟩ (by simp only [← hs]; rfl) rfl⟩
        | (exfalso; simp_all; done)
    · have hs : (cR fun k => if k = o ∧ k < i + 1 then c k + 1 else c k) = cR fun k => if k = o ∧ k < i then c k + 1 else c k := by
        refine cR_congr fun k hk => ?_
        by_cases e : k = o ∧ k < i
        · rw [if_pos e, if_pos ⟨e.1, by omega⟩]
        · rw [if_neg e, if_neg (by omega)]
      have hse : ¬ outS o = outS i := fun h => he (hoi.1 h)
      generalize outS i = si at *
      generalize outS o = so at *
      (repeat' ((conv => whnf); first | refine CondVC.t ?_ | refine CondVC.f ?_ | refine CondVC.dec (fun h => ?_) (fun h => ?_) | refine CondVC.ndec (fun h => ?_) (fun h => ?_) | refine CondVC.mk (fun h => ?_) (fun h => ?_) | refine ArVC.i64 (by first | omega | (simp only; omega)) ?_ | refine SideVC.mk (by first | omega | decide | (simp only; omega) | (simp [slS]; done) | (simp [slS]; omega) | (simp only [byteE_len, mvE_len, strE_len, intE_len, esC_len, List.length_cons, List.length_nil, List.length_append, List.length_replicate, List.length_set, Int.toNat_natCast, and_true] at *; omega)) ?_ | refine LoopN.go ?_ | exact trivial | refine AltVC.mk ?_ ?_ | refine HeldVC.mk rfl ?_ | refine LoadVC.mk _ gi ?_ | refine SideVC.mk (by simp only [List.length_cons, List.length_nil]; omega) ?_ | refine CallVC.res [26] rfl h1 rfl ?_ | refine OpVC.more tt_ok ?_ | refine RestVC.ext tt_ok ?_)); all_goals (conv => whnf)
      all_goals first
        | (exfalso; omega)
        | exact ⟨i + 1, by omega, by omega, Sub.mk [] _ ⟨rfl, rfl, rfl, rfl, rfl, trivial⟩ (by simp only [hs]; rfl) rfl⟩
        | (exfalso; simp_all; done)
  · have e : i = 4 := by omega
    subst e
    (repeat' ((conv => whnf); first | refine CondVC.t ?_ | refine CondVC.f ?_ | refine CondVC.dec (fun h => ?_) (fun h => ?_) | refine CondVC.ndec (fun h => ?_) (fun h => ?_) | refine CondVC.mk (fun h => ?_) (fun h => ?_) | refine ArVC.i64 (by first | omega | (simp only; omega)) ?_ | refine SideVC.mk (by first | omega | decide | (simp only; omega) | (simp [slS]; done) | (simp [slS]; omega) | (simp only [byteE_len, mvE_len, strE_len, intE_len, esC_len, List.length_cons, List.length_nil, List.length_append, List.length_replicate, List.length_set, Int.toNat_natCast, and_true] at *; omega)) ?_ | refine LoopN.go ?_ | exact trivial | refine AltVC.mk ?_ ?_ | refine HeldVC.mk rfl ?_ | refine OpVC.more tt_ok ?_ | refine RestVC.ext tt_ok ?_)); all_goals (conv => whnf)
    all_goals first
      | (exfalso; omega)
      | exact RetVC.res rfl rfl
theorem gaCount_spec : ∀ (n : Nat) (w : Tx) (t g f : Nat), t + g + f = n → w.all okCh = true → w.length + n ≤ 10 → GaS n w t g f
  | 0, w, t, g, f, hn, hok, hw => by
    obtain rfl : t = 0 := by omega
    obtain rfl : g = 0 := by omega
    obtain rfl : f = 0 := by omega
    exact gaLeaf w hok (by omega)
  | n + 1, w, t, g, f, hn, hok, hw => by
    intro x y z ex ey ez c hc
    have ok1 : ∀ b : UInt8, okCh b = true → (w ++ [b]).all okCh = true := fun b hb => by simp [hok, hb]
    have hb3 : (3 : Nat) ^ n ≤ 59049 := by
      have : (3 : Nat) ^ n ≤ 3 ^ 10 := Nat.pow_le_pow_right (by decide) (by omega)
      exact this
    have hr : ∀ b : UInt8, okCh b = true → ∀ t' g' f', t' + g' + f' = n → GaS n (w ++ [b]) t' g' f' := fun b hb t' g' f' h => gaCount_spec n (w ++ [b]) t' g' f' h (ok1 b hb) (by rw [List.length_append, List.length_cons, List.length_nil]; omega)
    have kT := fun k => cK_le k n (w ++ [84]) (t - 1) g f
    have kG := fun k => cK_le k n (w ++ [46]) t (g - 1) f
    obtain ⟨c1, hc1⟩ : ∃ c1 : Nat → Int, c1 = fun k => c k + ((if 0 < t then cK k n (w ++ [84]) (t - 1) g f else 0 : Nat) : Int) := ⟨_, rfl⟩
    obtain ⟨c2, hc2⟩ : ∃ c2 : Nat → Int, c2 = fun k => c1 k + ((if 0 < g then cK k n (w ++ [46]) t (g - 1) f else 0 : Nat) : Int) := ⟨_, rfl⟩
    obtain ⟨c3, hc3⟩ : ∃ c3 : Nat → Int, c3 = fun k => c2 k + ((if 0 < f then cK k n (w ++ [70]) t g (f - 1) else 0 : Nat) : Int) := ⟨_, rfl⟩
    have hfin : cR (fun k => c k + (cK k (n + 1) w t g f : Nat)) = cR c3 := cR_congr fun k _ => by
      rw [hc3, hc2, hc1]
      show c k + (((if 0 < t then cK k n (w ++ [84]) (t - 1) g f else 0) + (if 0 < g then cK k n (w ++ [46]) t (g - 1) f else 0) + (if 0 < f then cK k n (w ++ [70]) t g (f - 1) else 0) : Nat) : Int) = _
      simp only [Int.natCast_add]
      omega
    rw [hfin]
    have hpw : (3 : Nat) ^ (n + 1) = 3 ^ n * 3 := Nat.pow_succ 3 n
    rw [hpw] at hc
    unfold GaS at hr
    generalize (3 : Nat) ^ n = p3 at *
    have b0 : ∀ k, 0 ≤ c k ∧ c k + (p3 : Int) ≤ 100000000000 := fun k => by have h1 := hc k; omega
    have b1 : ∀ k, 0 ≤ c1 k ∧ c1 k + (p3 : Int) ≤ 100000000000 := fun k => by
      have h1 := hc k
      have h2 := kT k
      rw [hc1]
      simp only
      split <;> omega
    have b2 : ∀ k, 0 ≤ c2 k ∧ c2 k + (p3 : Int) ≤ 100000000000 := fun k => by
      have h1 := hc k
      have h2 := kT k
      have h3 := kG k
      rw [hc2, hc1]
      simp only
      split <;> split <;> omega
    have hT1 : 0 < t → _ := fun ht => hr 84 rfl (t - 1) g f (by omega) (x - 1) y z (by omega) ey ez c b0
    have hG1 : 0 < g → _ := fun hg => hr 46 rfl t (g - 1) f (by omega) x (y - 1) z ex (by omega) ez c1 b1
    have hF1 : 0 < f → _ := fun hf => hr 70 rfl t g (f - 1) (by omega) x y (z - 1) ex ey (by omega) c2 b2
    have eT : 0 < t → cR (fun k => c k + (cK k n (w ++ [84]) (t - 1) g f : Nat)) = cR c1 := fun ht => cR_congr fun k _ => by rw [hc1]; simp only [if_pos ht]
    have eG : 0 < g → cR (fun k => c1 k + (cK k n (w ++ [46]) t (g - 1) f : Nat)) = cR c2 := fun ht => cR_congr fun k _ => by rw [hc2]; simp only [if_pos ht]
    have eF : 0 < f → cR (fun k => c2 k + (cK k n (w ++ [70]) t g (f - 1) : Nat)) = cR c3 := fun ht => cR_congr fun k _ => by rw [hc3]; simp only [if_pos ht]
    have nT : ¬ 0 < t → cR c = cR c1 := fun ht => cR_congr fun k _ => by rw [hc1]; simp only [if_neg ht]; omega
    have nG : ¬ 0 < g → cR c1 = cR c2 := fun ht => cR_congr fun k _ => by rw [hc2]; simp only [if_neg ht]; omega
    have nF : ¬ 0 < f → cR c2 = cR c3 := fun ht => cR_congr fun k _ => by rw [hc3]; simp only [if_neg ht]; omega
    clear hc1 hc2 hc3 hfin
    by_cases ht : 0 < t
    all_goals first
      | (have hT1 := hT1 ht; rw [eT ht] at hT1)
      | rw [nT ht]
    all_goals
      by_cases hg : 0 < g
    all_goals first
      | (have hG1 := hG1 hg; rw [eG hg] at hG1)
      | rw [nG hg] at hT1
      | rw [nG hg]
    all_goals
      by_cases hf : 0 < f
    all_goals first
      | (have hF1 := hF1 hf; rw [eF hf] at hF1)
      | rw [nF hf] at hG1
      | rw [nF hf] at hT1
      | rw [nF hf]
    all_goals first
      | (exfalso; omega)
      | skip
    all_goals
      refine Spec.of_wpx tt_ok Try.func54 (by kernel_rfl) rfl ?_
      (repeat' ((conv => whnf); first | refine CondVC.t ?_ | refine CondVC.f ?_ | refine CondVC.dec (fun h => ?_) (fun h => ?_) | refine CondVC.ndec (fun h => ?_) (fun h => ?_) | refine CondVC.mk (fun h => ?_) (fun h => ?_) | refine ArVC.i64 (by first | omega | (simp only; omega)) ?_ | refine SideVC.mk (by first | omega | decide | (simp only; omega) | (simp [slS]; done) | (simp [slS]; omega) | (simp only [byteE_len, mvE_len, strE_len, intE_len, esC_len, List.length_cons, List.length_nil, List.length_append, List.length_replicate, List.length_set, Int.toNat_natCast, and_true] at *; omega)) ?_ | refine LoopN.go ?_ | exact trivial | refine AltVC.mk ?_ ?_ | refine HeldVC.mk rfl ?_ | refine CallVC.res [1000] rfl hT1 rfl ?_ | refine CallVC.res [1000] rfl hG1 rfl ?_ | refine CallVC.res [1000] rfl hF1 rfl ?_ | refine SideVC.mk (by simp only [List.length_append] at *; simp; omega) ?_ | refine OpVC.more tt_ok ?_ | refine RestVC.ext tt_ok ?_)); all_goals (conv => whnf)
      all_goals first
        | (exfalso; omega)
        | exact RetVC.res rfl rfl
end Go.Proofs.Ytblihaicbhdbdaa.X
