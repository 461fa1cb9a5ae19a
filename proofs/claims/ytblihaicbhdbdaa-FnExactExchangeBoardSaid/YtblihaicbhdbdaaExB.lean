/- The exchange of a board: the program's and the reference's. No condition beyond each statement's. -/
import Derived.Test.YtblihaicbhdbdaaExch
namespace Go.Proofs.Ytblihaicbhdbdaa.X
open Go.Proofs
set_option maxRecDepth 100000
set_option linter.unusedVariables false
set_option linter.unusedSimpArgs false

/-! ### What the moves are -/
theorem exchF_in (last : Bool) (g : Tx) : ∀ (n : Nat) (w : Tx), wayF w = n → ∀ m ∈ exchF last g w, (0 ≤ m.1 ∧ m.1 < w.length) ∧ (0 ≤ m.2 ∧ m.2 < w.length)
  | n, w, hn, m, hm => by
    rw [exchF] at hm
    split at hm
    · cases hm
    · split at hm
      · cases hm
      · rename_i m' h
        have h1 := (liveF_mem (pickF_mem h)).1
        rcases List.mem_cons.1 hm with e | h2
        · rw [e]; exact ⟨(movesF_in h1).1, (movesF_in h1).2.1⟩
        · have := exchF_in last g (wayF (madeF w m')) (madeF w m') rfl m h2
          rw [madeF_len] at this; exact this
termination_by n => n
decreasing_by have := way_made h1; omega
theorem exchL_in {last : Bool} {a b c : Nat} {m : Mv} (hm : m ∈ exchL last a b c) : (0 ≤ m.1 ∧ m.1 < ((a + b + c : Nat) : Int)) ∧ (0 ≤ m.2 ∧ m.2 < ((a + b + c : Nat) : Int)) := by
  unfold exchL at hm
  split at hm
  · simp only [Int.toNat_natCast] at hm
    have := exchF_in last _ _ _ rfl m hm
    rw [firstF_len] at this; exact this
  · cases hm
abbrev Vs := List Int × List Mv
def rowMv (c r : Int) (m : Mv) : Mv := (r * c + m.1, r * c + m.2)
def visF (ac : List Mv) (c : Int) (s : Vs) (r : Int) : Vs := if r ∈ s.1 then s else (s.1 ++ [r], s.2 ++ ac.map (rowMv c r))
def dnMv (c wide : Int) (m : Mv) : Mv := (m.1 * c + wide, m.2 * c + wide)
def dnF (ac : List Mv) (c wide : Int) (s : Vs) (m : Mv) : Vs := visF ac c (s.1, s.2 ++ [dnMv c wide m]) m.1
def boSt (ac dn : List Mv) (c wide high : Int) (k : Nat) : Vs := (dn.take k).foldl (dnF ac c wide) (visF ac c ([], []) high)
theorem boSt_zero (ac dn : List Mv) (c wide high : Int) : boSt ac dn c wide high 0 = visF ac c ([], []) high := rfl
theorem boSt_succ (ac : List Mv) {dn : List Mv} (c wide high : Int) {k : Nat} (h : k < dn.length) : boSt ac dn c wide high (k + 1) = dnF ac c wide (boSt ac dn c wide high k) dn[k] := by
  unfold boSt
  rw [List.take_succ_eq_append_getElem h, List.foldl_append]; rfl
theorem visF_len (ac : List Mv) (c : Int) (s : Vs) (r : Int) : (visF ac c s r).2.length ≤ s.2.length + ac.length := by
  unfold visF
  split
  · omega
  · simp
theorem boSt_len (ac dn : List Mv) (c wide high : Int) : ∀ k, (boSt ac dn c wide high k).2.length ≤ (k + 1) * (ac.length + 1)
  | 0 => by
    rw [boSt_zero]
    have := visF_len ac c ([], []) high
    simp at this; omega
  | k + 1 => by
    by_cases h : k < dn.length
    · rw [boSt_succ ac c wide high h]
      have h1 := boSt_len ac dn c wide high k
      have h2 := visF_len ac c ((boSt ac dn c wide high k).1, (boSt ac dn c wide high k).2 ++ [dnMv c wide dn[k]]) dn[k].1
      unfold dnF
      simp only [List.length_append, List.length_cons, List.length_nil] at h2
      have e : (k + 1 + 1) * (ac.length + 1) = (k + 1) * (ac.length + 1) + (ac.length + 1) := by rw [Nat.succ_mul]
      omega
    · have h1 := boSt_len ac dn c wide high k
      have e : boSt ac dn c wide high (k + 1) = boSt ac dn c wide high k := by unfold boSt; rw [List.take_of_length_le (by omega), List.take_of_length_le (by omega)]
      rw [e]
      have e : (k + 1 + 1) * (ac.length + 1) = (k + 1) * (ac.length + 1) + (ac.length + 1) := by rw [Nat.succ_mul]
      omega

/-! ### The program's -/
def seE (s : List Int) : List (C × V) := s.map fun r => (.int .i64 r, vb true)
theorem seE_some {s : List Int} {r : Int} {v : V} : getM (seE s) (.int .i64 r) = some v → r ∈ s ∧ v = vb true := by
  induction s with
  | nil => intro h; cases h
  | cons a s ih =>
    intro h
    simp only [seE, List.map_cons, getM] at h
    split at h
    · rename_i hk
      simp only [keyEq, Bool.and_eq_true, decide_eq_true_eq] at hk
      exact ⟨by simp [hk], (Option.some.inj h).symm⟩
    · obtain ⟨h1, h2⟩ := ih h
      exact ⟨List.mem_cons_of_mem _ h1, h2⟩
theorem seE_none {s : List Int} {r : Int} : getM (seE s) (.int .i64 r) = none → r ∉ s := by
  induction s with
  | nil => intro _ h; cases h
  | cons a s ih =>
    intro h
    simp only [seE, List.map_cons, getM] at h
    split at h
    · cases h
    · rename_i hk
      intro hm
      rcases List.mem_cons.1 hm with e | hm
      · apply hk; subst e; simp [keyEq]
      · exact ih h hm
theorem seE_set {s : List Int} {r : Int} (h : r ∉ s) : setM (seE s) (.int .i64 r) (vb true) = seE (s ++ [r]) := by
  induction s with
  | nil => rfl
  | cons a s ih =>
    simp only [List.mem_cons, not_or] at h
    simp only [seE, List.map_cons, List.cons_append, setM]
    rw [if_neg (by simp only [keyEq, Bool.and_eq_true, decide_eq_true_eq]; intro hk; exact h.1 (by simp_all))]
    exact congrArg _ (ih h.2)
def viM (s : Vs) (ac : List Mv) (c : Int) : Mem := [(1012, .box 71 [.mp 1036]), (1036, .ext (.mp (some .i64) (seE s.1))), (1006, .box 33 [.sl 1024]), (1024, .sl 66 2 (mvE ac)), (1011, .box 33 [.sl 1035]), (1035, .sl 66 2 (mvE s.2)), (1010, .box 3 [.int .i64 c])]
def viR (s : Vs) (ac : List Mv) (c : Int) : Mem := [(1012, .box 71 [.mp 1036]), (1036, .ext (.mp (some .i64) (seE s.1))), (1006, .box 33 [.sl 1024]), (1024, .sl 66 2 (mvE ac)), (1011, .box 33 [.sl 1045]), (1045, .sl 66 2 (mvE s.2)), (1010, .box 3 [.int .i64 c])]
theorem visit_spec (s : Vs) (ac : List Mv) (c r : Int) (hac : ac.length ≤ 1000) (hs : s.2.length ≤ 1000000) (hc : 0 ≤ c ∧ c ≤ 5) (hr : 0 ≤ r ∧ r ≤ 5) (hm : ∀ m ∈ ac, (0 ≤ m.1 ∧ m.1 ≤ 100) ∧ (0 ≤ m.2 ∧ m.2 ≤ 100)) :
    Spec Try.prog 51 [i64 r, .c (.ptr 1012 0), .c (.ptr 1006 0), .c (.ptr 1011 0), .c (.ptr 1010 0)] (viM s ac c) (isRes [] (viR (visF ac c s r) ac c)) := by
  obtain ⟨s1, s2⟩ := s
  have hrc : 0 ≤ r * c ∧ r * c ≤ 25 := ⟨Int.mul_nonneg hr.1 hc.1, by
    have := Int.mul_le_mul hr.2 hc.2 hc.1 (by omega : (0 : Int) ≤ 5)
    omega⟩
  have hml := mvE_len ac
  unfold viM viR visF
  simp only at hs ⊢
  refine Spec.of_wpx tt_ok Try.func51 (by kernel_rfl) rfl ?_
  by_cases hin : r ∈ s1
  · rw [if_pos hin]
    (repeat' ((conv => whnf); first | refine CondVC.t ?_ | refine CondVC.f ?_ | refine CondVC.dec (fun h => ?_) (fun h => ?_) | refine CondVC.ndec (fun h => ?_) (fun h => ?_) | refine CondVC.mk (fun h => ?_) (fun h => ?_) | refine ArVC.i64 (by first | omega | (simp only; omega)) ?_ | refine SideVC.mk (by first | omega | decide | (simp only; omega) | (simp [slS]; done) | (simp [slS]; omega) | (simp only [byteE_len, mvE_len, strE_len, intE_len, esC_len, List.length_cons, List.length_nil, List.length_append, List.length_replicate, List.length_set, Int.toNat_natCast, and_true] at *; omega)) ?_ | refine LoopN.go ?_ | exact trivial | refine AltVC.mk ?_ ?_ | refine HeldVC.mk rfl ?_ | (refine LookVC.mk (fun v hv => ?_) (fun hv => ?_); obtain rfl := (seE_some hv).2) | refine OpVC.more tt_ok ?_ | refine RestVC.ext tt_ok ?_)); all_goals (conv => whnf)
    all_goals first
      | exact RetVC.ren [(1045, 1035)] [] _ rfl rfl rfl ⟨rfl, rfl⟩
      | (exfalso; exact seE_none (by assumption) hin)
  · rw [if_neg hin]
    have hset : setM (seE s1) (C.int .i64 r) (ofConst (Value.bool true)) = seE (s1 ++ [r]) := seE_set hin
    (repeat' ((conv => whnf); first | refine CondVC.t ?_ | refine CondVC.f ?_ | refine CondVC.dec (fun h => ?_) (fun h => ?_) | refine CondVC.ndec (fun h => ?_) (fun h => ?_) | refine CondVC.mk (fun h => ?_) (fun h => ?_) | refine ArVC.i64 (by first | omega | (simp only; omega)) ?_ | refine SideVC.mk (by first | omega | decide | (simp only; omega) | (simp [slS]; done) | (simp [slS]; omega) | (simp only [byteE_len, mvE_len, strE_len, intE_len, esC_len, List.length_cons, List.length_nil, List.length_append, List.length_replicate, List.length_set, Int.toNat_natCast, and_true] at *; omega)) ?_ | refine LoopN.go ?_ | exact trivial | refine AltVC.mk ?_ ?_ | refine HeldVC.mk rfl ?_ | (refine LookVC.mk (fun v hv => ?_) (fun hv => ?_); exact absurd (seE_some hv).1 hin) | refine OpVC.more tt_ok ?_ | refine RestVC.ext tt_ok ?_)); all_goals (conv => whnf)
    refine LoopVC.mk (G := Nat) (fun k => ⟨[(15, .v (i64 k)), (14, .v (i64 ac.length)), (13, .v (.c (.sl 1024))), (4, .v (.c (.ptr 1010 0))), (3, .v (.c (.ptr 1011 0))), (0, .v (i64 r))],
        [(1012, .box 71 [.mp 1036]), (1036, .ext (.mp (some .i64) (seE (s1 ++ [r])))), (1006, .box 33 [.sl 1024]), (1024, .sl 66 2 (mvE ac)), (1011, .box 33 [.sl 3035]), (3035, .sl 66 2 (mvE (s2 ++ (ac.take k).map (rowMv c r)))), (1010, .box 3 [.int .i64 c])]⟩)
      (fun k => k ≤ ac.length) (fun k => ac.length - k) 0 (Nat.zero_le _) (Sub.mk [(3035, 1035)] _ ⟨rfl, by rw [hml]; rfl, rfl, rfl, rfl, rfl, trivial⟩ (by simp only [hset, List.take_zero, List.map_nil, List.append_nil]; rfl) rfl) ?_
    intro k hk
    by_cases hlt : k < ac.length
    · have g1 : (mvE ac)[(k : Int).toNat]? = some (mvC ac[k]) := by rw [Int.toNat_natCast]; exact mvE_get hlt
      have hmk := hm _ (List.getElem_mem hlt)
      have hstep : mvE (s2 ++ (ac.take (k + 1)).map (rowMv c r)) = mvE (s2 ++ (ac.take k).map (rowMv c r)) ++ [mvC (rowMv c r ac[k])] := by
        rw [List.take_succ_eq_append_getElem hlt, List.map_append, ← List.append_assoc, mvE_append]; rfl
      have hol : (mvE (s2 ++ (ac.take k).map (rowMv c r))).length ≤ 2000000 := by
        rw [mvE_len]; simp; omega
      generalize (mvE (s2 ++ (ac.take k).map (rowMv c r))) = cur at *
      generalize ac[k] = m at *
      (repeat' ((conv => whnf); first | refine CondVC.t ?_ | refine CondVC.f ?_ | refine CondVC.dec (fun h => ?_) (fun h => ?_) | refine CondVC.ndec (fun h => ?_) (fun h => ?_) | refine CondVC.mk (fun h => ?_) (fun h => ?_) | refine ArVC.i64 (by first | omega | (simp only; omega)) ?_ | refine SideVC.mk (by first | omega | decide | (simp only; omega) | (simp [slS]; done) | (simp [slS]; omega) | (simp only [byteE_len, mvE_len, strE_len, intE_len, esC_len, List.length_cons, List.length_nil, List.length_append, List.length_replicate, List.length_set, Int.toNat_natCast, and_true] at *; omega)) ?_ | refine LoopN.go ?_ | exact trivial | refine AltVC.mk ?_ ?_ | refine HeldVC.mk rfl ?_ | refine LoadVC.mk _ g1 ?_ | refine SideVC.mk (by rw [hml]; omega) ?_ | refine SideVC.mk (by simp only [List.length_cons, List.length_nil]; omega) ?_ | refine OpVC.more tt_ok ?_ | refine RestVC.ext tt_ok ?_)); all_goals (conv => whnf)
      all_goals first
        | (exfalso; omega)
        | exact ⟨k + 1, by omega, by omega, Sub.mk [(3035, 34)] _ ⟨rfl, rfl, rfl, rfl, rfl, rfl, trivial⟩ (by simp only [hstep]; rfl) rfl⟩
    · have e : k = ac.length := by omega
      subst e
      (repeat' ((conv => whnf); first | refine CondVC.t ?_ | refine CondVC.f ?_ | refine CondVC.dec (fun h => ?_) (fun h => ?_) | refine CondVC.ndec (fun h => ?_) (fun h => ?_) | refine CondVC.mk (fun h => ?_) (fun h => ?_) | refine ArVC.i64 (by first | omega | (simp only; omega)) ?_ | refine SideVC.mk (by first | omega | decide | (simp only; omega) | (simp [slS]; done) | (simp [slS]; omega) | (simp only [byteE_len, mvE_len, strE_len, intE_len, esC_len, List.length_cons, List.length_nil, List.length_append, List.length_replicate, List.length_set, Int.toNat_natCast, and_true] at *; omega)) ?_ | refine LoopN.go ?_ | exact trivial | refine AltVC.mk ?_ ?_ | refine HeldVC.mk rfl ?_ | refine OpVC.more tt_ok ?_ | refine RestVC.ext tt_ok ?_)); all_goals (conv => whnf)
      all_goals first
        | (exfalso; omega)
        | exact RetVC.ren [(1045, 3035)] [] [(1012, .box 71 [.mp 1036]), (1036, .ext (.mp (some .i64) (seE (s1 ++ [r])))), (1006, .box 33 [.sl 1024]), (1024, .sl 66 2 (mvE ac)), (1011, .box 33 [.sl 1045]), (1045, .sl 66 2 (mvE (s2 ++ (ac.take ac.length).map (rowMv c r)))), (1010, .box 3 [.int .i64 c])] rfl rfl rfl ⟨rfl, by simp only [List.take_length]⟩

theorem halv_cast {x y : Int} (h : halvesF x y = true) : ∃ a b : Nat, x = a ∧ y = b ∧ a ≤ 2 ∧ b ≤ 2 := by
  unfold halvesF at h
  simp only [Bool.and_eq_true, decide_eq_true_eq] at h
  exact ⟨x.toNat, y.toNat, by omega, by omega, by omega, by omega⟩
def exbL (x y : Int) : List Mv := if halvesF x y then (boSt (exchL false x 1 x) (exchL false y 1 y) (2 * x + 1) x y (exchL false y 1 y).length).2 else []
theorem exb_len (x y : Int) : (exbL x y).length ≤ 10000 := by
  unfold exbL
  split
  · have h1 := boSt_len (exchL false x 1 x) (exchL false y 1 y) (2 * x + 1) x y (exchL false y 1 y).length
    have h2 := exchL_len false x 1 x
    have h3 := exchL_len false y 1 y
    have h4 : ((exchL false y 1 y).length + 1) * ((exchL false x 1 x).length + 1) ≤ 65 * 65 := Nat.mul_le_mul (by omega) (by omega)
    omega
  · simp
theorem implExchangeBoard_spec (x y : Int) : Spec Try.prog 18 [i64 x, i64 y] [] (isRes [.c (.sl 1001), vb (halvesF x y)] [(1001, .sl 66 2 (mvE (exbL x y)))]) := by
  have h0 := areHalves_spec x y
  unfold exbL
  refine Spec.of_wpx tt_ok Try.func18 (by kernel_rfl) rfl ?_
  cases hn : halvesF x y with
  | false =>
    rw [hn] at h0
    rw [if_neg Bool.false_ne_true]
    (repeat' ((conv => whnf); first | refine CondVC.t ?_ | refine CondVC.f ?_ | refine CondVC.dec (fun h => ?_) (fun h => ?_) | refine CondVC.ndec (fun h => ?_) (fun h => ?_) | refine CondVC.mk (fun h => ?_) (fun h => ?_) | refine ArVC.i64 (by first | omega | (simp only; omega)) ?_ | refine SideVC.mk (by first | omega | decide | (simp only; omega) | (simp [slS]; done) | (simp [slS]; omega) | (simp only [byteE_len, mvE_len, strE_len, intE_len, esC_len, List.length_cons, List.length_nil, List.length_append, List.length_replicate, List.length_set, Int.toNat_natCast, and_true] at *; omega)) ?_ | refine LoopN.go ?_ | exact trivial | refine AltVC.mk ?_ ?_ | refine HeldVC.mk rfl ?_ | refine CallVC.pure h0 rfl ?_ | refine OpVC.more tt_ok ?_ | refine RestVC.ext tt_ok ?_)); all_goals (conv => whnf)
    all_goals exact RetVC.nil 1001 66 2 [.c (.sl 1001), vb false] [] rfl rfl rfl (RetVC.res rfl rfl)
  | true =>
    rw [hn] at h0
    rw [if_pos rfl]
    obtain ⟨a, b, rfl, rfl, ha, hb⟩ := halv_cast hn
    have h1 := Spec.ren [(1001, 2001)] [(2001, 1001)] (implFirstExchange_spec a 1 a) rfl rfl rfl
    have h2 := Spec.ren [(1001, 2002)] [(2002, 1001)] (implFirstExchange_spec b 1 b) rfl rfl rfl
    have l1 := exchL_len false a 1 a
    have l2 := exchL_len false b 1 b
    have i1 : ∀ m ∈ exchL false a 1 a, _ := fun m hm => exchL_in (a := a) (b := 1) (c := a) hm
    have i2 : ∀ m ∈ exchL false b 1 b, _ := fun m hm => exchL_in (a := b) (b := 1) (c := b) hm
    generalize exchL false a 1 a = ac at *
    generalize exchL false b 1 b = dn at *
    generalize exchOk a 1 a = ok1 at *
    generalize exchOk b 1 b = ok2 at *
    have hml := mvE_len dn
    have hv := fun (s : Vs) (r : Int) hs hr => visit_spec s ac (2 * (a : Int) + 1) r (by omega) hs (by omega) hr (fun m hm => by have := i1 m hm; omega)
    have hv0 := hv ([], []) b (by simp) (by omega)
    unfold viM viR at hv hv0
    have hv0 := Spec.ren [(1012, 12), (1036, 36), (1006, 6), (1024, 2001), (1011, 11), (1035, 35), (1010, 10), (1045, 3045)] [(12, 1012), (36, 1036), (6, 1006), (2001, 1024), (11, 1011), (35, 1035), (10, 1010), (3045, 1045)] hv0 rfl rfl rfl
    have hz := boSt_zero ac dn (2 * (a : Int) + 1) a b
    rw [← hz] at hv0
    have hbl := boSt_len ac dn (2 * (a : Int) + 1) a b
    have hsu := fun k (h : k < dn.length) => boSt_succ ac (2 * (a : Int) + 1) a b h
    generalize boSt ac dn (2 * (a : Int) + 1) a b = bs at *
    (repeat' ((conv => whnf); first | refine CondVC.t ?_ | refine CondVC.f ?_ | refine CondVC.dec (fun h => ?_) (fun h => ?_) | refine CondVC.ndec (fun h => ?_) (fun h => ?_) | refine CondVC.mk (fun h => ?_) (fun h => ?_) | refine ArVC.i64 (by first | omega | (simp only; omega)) ?_ | refine SideVC.mk (by first | omega | decide | (simp only; omega) | (simp [slS]; done) | (simp [slS]; omega) | (simp only [byteE_len, mvE_len, strE_len, intE_len, esC_len, List.length_cons, List.length_nil, List.length_append, List.length_replicate, List.length_set, Int.toNat_natCast, and_true] at *; omega)) ?_ | refine LoopN.go ?_ | exact trivial | refine AltVC.mk ?_ ?_ | refine HeldVC.mk rfl ?_ | refine CallVC.pure h0 rfl ?_ | refine CallVC.res [] rfl h1 rfl ?_ | refine CallVC.res [] rfl h2 rfl ?_ | refine CallVC.res [12, 36, 6, 2001, 11, 35, 10] rfl hv0 rfl ?_ | refine OpVC.more tt_ok ?_ | refine RestVC.ext tt_ok ?_)); all_goals (conv => whnf)
    refine LoopVC.mk (G := Nat) (fun k => ⟨[(43, .v (i64 k)), (42, .v (i64 dn.length)), (41, .v (.c (.sl 2002))), (13, .v (.c (.fn 51 [12, 6, 11, 10]))), (12, .v (.c (.ptr 12 0))), (11, .v (.c (.ptr 11 0))), (10, .v (.c (.ptr 10 0))), (6, .v (.c (.ptr 6 0))), (0, .v (i64 a))],
        [(12, .box 71 [.mp 36]), (36, .ext (.mp (some .i64) (seE (bs k).1))), (6, .box 33 [.sl 2001]), (2001, .sl 66 2 (mvE ac)), (11, .box 33 [.sl 3045]), (3045, .sl 66 2 (mvE (bs k).2)), (10, .box 3 [.int .i64 (2 * (a : Int) + 1)]), (2002, .sl 66 2 (mvE dn))]⟩)
      (fun k => k ≤ dn.length) (fun k => dn.length - k) 0 (Nat.zero_le _) (Sub.mk [] _ ⟨rfl, by rw [hml]; rfl, rfl, rfl, rfl, rfl, rfl, rfl, rfl, trivial⟩ rfl rfl) ?_
    intro k hk
    by_cases hlt : k < dn.length
    · have g1 : (mvE dn)[(k : Int).toNat]? = some (mvC dn[k]) := by rw [Int.toNat_natCast]; exact mvE_get hlt
      have hm := i2 _ (List.getElem_mem hlt)
      have hsk := hsu k hlt
      have hlk := hbl k
      have hkl : (k + 1) * (ac.length + 1) ≤ 65 * 65 := Nat.mul_le_mul (by omega) (by omega)
      unfold dnF at hsk
      obtain ⟨s2, hs2⟩ : ∃ s2, s2 = bs (k + 1) := ⟨_, rfl⟩
      rw [← hs2] at hsk
      generalize dn[k] = m at *
      have hp1 : 0 ≤ m.1 * (2 * (a : Int) + 1) ∧ m.1 * (2 * (a : Int) + 1) ≤ 25 := ⟨Int.mul_nonneg (by omega) (by omega), by
        have := Int.mul_le_mul (show m.1 ≤ 5 by omega) (show 2 * (a : Int) + 1 ≤ 5 by omega) (by omega) (by omega)
        omega⟩
      have hp2 : 0 ≤ m.2 * (2 * (a : Int) + 1) ∧ m.2 * (2 * (a : Int) + 1) ≤ 25 := ⟨Int.mul_nonneg (by omega) (by omega), by
        have := Int.mul_le_mul (show m.2 ≤ 5 by omega) (show 2 * (a : Int) + 1 ≤ 5 by omega) (by omega) (by omega)
        omega⟩
      have hv1 := hv ((bs k).1, (bs k).2 ++ [dnMv (2 * (a : Int) + 1) a m]) m.1 (by simp only [List.length_append, List.length_cons, List.length_nil]; omega) (by omega)
      rw [← hsk] at hv1
      have hv1 := Spec.ren [(1012, 12), (1036, 36), (1006, 6), (1024, 2001), (1011, 11), (1035, 62), (1010, 10), (1045, 3046)] [(12, 1012), (36, 1036), (6, 1006), (2001, 1024), (11, 1011), (62, 1035), (10, 1010), (3046, 1045)] hv1 rfl rfl rfl
      simp only [mvE_append] at hv1
      have hol := mvE_len (bs k).2
      generalize bs k = s1 at *
      generalize mvE s1.2 = cur at *
      (repeat' ((conv => whnf); first | refine CondVC.t ?_ | refine CondVC.f ?_ | refine CondVC.dec (fun h => ?_) (fun h => ?_) | refine CondVC.ndec (fun h => ?_) (fun h => ?_) | refine CondVC.mk (fun h => ?_) (fun h => ?_) | refine ArVC.i64 (by first | omega | (simp only; omega)) ?_ | refine SideVC.mk (by first | omega | decide | (simp only; omega) | (simp [slS]; done) | (simp [slS]; omega) | (simp only [byteE_len, mvE_len, strE_len, intE_len, esC_len, List.length_cons, List.length_nil, List.length_append, List.length_replicate, List.length_set, Int.toNat_natCast, and_true] at *; omega)) ?_ | refine LoopN.go ?_ | exact trivial | refine AltVC.mk ?_ ?_ | refine HeldVC.mk rfl ?_ | refine LoadVC.mk _ g1 ?_ | refine SideVC.mk (by rw [hml]; omega) ?_ | refine SideVC.mk (by simp only [hol, List.length_cons, List.length_nil]; omega) ?_ | refine CallVC.res [12, 36, 6, 2001, 11, 62, 10] rfl hv1 rfl ?_ | refine OpVC.more tt_ok ?_ | refine RestVC.ext tt_ok ?_)); all_goals (conv => whnf)
      all_goals first
        | (exfalso; omega)
        | exact ⟨k + 1, by omega, by omega, Sub.mk [(3045, 3046)] _ ⟨rfl, rfl, rfl, rfl, rfl, rfl, rfl, rfl, rfl, trivial⟩ (by simp only [← hs2]; rfl) rfl⟩
    · have e : k = dn.length := by omega
      subst e
      (repeat' ((conv => whnf); first | refine CondVC.t ?_ | refine CondVC.f ?_ | refine CondVC.dec (fun h => ?_) (fun h => ?_) | refine CondVC.ndec (fun h => ?_) (fun h => ?_) | refine CondVC.mk (fun h => ?_) (fun h => ?_) | refine ArVC.i64 (by first | omega | (simp only; omega)) ?_ | refine SideVC.mk (by first | omega | decide | (simp only; omega) | (simp [slS]; done) | (simp [slS]; omega) | (simp only [byteE_len, mvE_len, strE_len, intE_len, esC_len, List.length_cons, List.length_nil, List.length_append, List.length_replicate, List.length_set, Int.toNat_natCast, and_true] at *; omega)) ?_ | refine LoopN.go ?_ | exact trivial | refine AltVC.mk ?_ ?_ | refine HeldVC.mk rfl ?_ | refine OpVC.more tt_ok ?_ | refine RestVC.ext tt_ok ?_)); all_goals (conv => whnf)
      all_goals first
        | (exfalso; omega)
        | exact RetVC.ren [(1001, 3045)] [.c (.sl 1001), vb true] [(1001, .sl 66 2 (mvE (bs dn.length).2))] rfl rfl rfl ⟨rfl, rfl⟩

/-! ### The reference's -/
def gapS (dn : List Mv) (high : Int) : Nat → Int
  | 0 => high
  | j + 1 => (dn.getD j (0, 0)).1
def preS (ac dn : List Mv) (c wide high : Int) : Nat → Vs
  | 0 => ([], [])
  | j + 1 => ((boSt ac dn c wide high j).1, (boSt ac dn c wide high j).2 ++ [dnMv c wide (dn.getD j (0, 0))])
theorem boSt_vis (ac dn : List Mv) (c wide high : Int) : ∀ {k : Nat}, k ≤ dn.length → boSt ac dn c wide high k = visF ac c (preS ac dn c wide high k) (gapS dn high k)
  | 0, _ => rfl
  | k + 1, h => by
    rw [boSt_succ ac c wide high (show k < dn.length by omega)]
    have e : dn.getD k (0, 0) = dn[k] := by rw [List.getD_eq_getElem?_getD, List.getElem?_eq_getElem (by omega)]; rfl
    show dnF ac c wide (boSt ac dn c wide high k) dn[k] = visF ac c ((boSt ac dn c wide high k).1, (boSt ac dn c wide high k).2 ++ [dnMv c wide (dn.getD k (0, 0))]) (dn.getD k (0, 0)).1
    rw [e]; rfl
def doneE (n : Nat) (s : List Int) : List (List C) := (List.range n).map fun i : Nat => [C.bool (decide ((i : Int) ∈ s))]
theorem doneE_len (n : Nat) (s : List Int) : (doneE n s).length = n := by simp [doneE]
theorem doneE_nil (n : Nat) : doneE n [] = List.replicate n [C.bool false] := by
  apply List.ext_getElem
  · simp [doneE]
  · intro i h1 h2; simp [doneE]
theorem doneE_get {n : Nat} {s : List Int} {i : Nat} (h : i < n) : (doneE n s)[i]? = some [.bool (decide ((i : Int) ∈ s))] := by simp [doneE, h]
theorem doneE_set {n : Nat} {s : List Int} {g : Nat} : (doneE n s).set g [.bool true] = doneE n (s ++ [(g : Int)]) := by
  apply List.ext_getElem
  · simp [doneE]
  · intro i h1 h2
    rw [List.getElem_set]
    simp only [doneE, List.getElem_map, List.getElem_range]
    by_cases e : g = i
    · subst e; simp
    · rw [if_neg e]
      congr 2
      simp only [List.mem_append, List.mem_singleton]
      rw [decide_eq_decide]
      constructor
      · exact .inl
      · rintro (h | h)
        · exact h
        · omega
set_option maxHeartbeats 1600000 in
theorem boExchange_spec (a b : Nat) (ha : a ≤ 2) (hb : b ≤ 2) : Spec Try.prog 48 [i64 a, i64 b] [] (isRes [.c (.sl 1001)] [(1001, .sl 66 2 (mvE (boSt (exchL false a 1 a) (exchL false b 1 b) (2 * (a : Int) + 1) a b (exchL false b 1 b).length).2))]) := by
  have h1 := Spec.ren [(1001, 2001)] [(2001, 1001)] (swOne_spec false a 1 a (by omega)) rfl rfl rfl
  have h2 := Spec.ren [(1001, 2002)] [(2002, 1001)] (swOne_spec false b 1 b (by omega)) rfl rfl rfl
  have l1 := exchL_len false a 1 a
  have l2 := exchL_len false b 1 b
  have i1 : ∀ m ∈ exchL false a 1 a, _ := fun m hm => exchL_in (a := a) (b := 1) (c := a) hm
  have i2 : ∀ m ∈ exchL false b 1 b, _ := fun m hm => exchL_in (a := b) (b := 1) (c := b) hm
  simp only [Int.natCast_one] at h1 h2 l1 l2 i1 i2
  generalize exchL false a 1 a = ac at *
  generalize exchL false b 1 b = dn at *
  generalize exchOk a 1 a = ok1 at *
  generalize exchOk b 1 b = ok2 at *
  have hml := mvE_len dn
  have hma := mvE_len ac
  have hvs := fun k (h : k ≤ dn.length) => boSt_vis ac dn (2 * (a : Int) + 1) a b h
  have hbl := boSt_len ac dn (2 * (a : Int) + 1) a b
  have hp0 : preS ac dn (2 * (a : Int) + 1) a b 0 = ([], []) := rfl
  have hps : ∀ k (h : k < dn.length), preS ac dn (2 * (a : Int) + 1) a b (k + 1) = ((boSt ac dn (2 * (a : Int) + 1) a b k).1, (boSt ac dn (2 * (a : Int) + 1) a b k).2 ++ [dnMv (2 * (a : Int) + 1) a dn[k]]) := fun k h => by
    have e : dn.getD k (0, 0) = dn[k] := by rw [List.getD_eq_getElem?_getD, List.getElem?_eq_getElem (by omega)]; rfl
    show ((boSt ac dn (2 * (a : Int) + 1) a b k).1, (boSt ac dn (2 * (a : Int) + 1) a b k).2 ++ [dnMv (2 * (a : Int) + 1) a (dn.getD k (0, 0))]) = _
    rw [e]
  have hg0 : gapS dn b 0 = b := rfl
  have hgs : ∀ k (h : k < dn.length), gapS dn b (k + 1) = dn[k].1 := fun k h => by
    have e : dn.getD k (0, 0) = dn[k] := by rw [List.getD_eq_getElem?_getD, List.getElem?_eq_getElem (by omega)]; rfl
    show (dn.getD k (0, 0)).1 = _
    rw [e]
  have hgr : ∀ k, k ≤ dn.length → 0 ≤ gapS dn b k ∧ gapS dn b k < 2 * (b : Int) + 1 := fun k hk => by
    cases k with
    | zero => rw [hg0]; omega
    | succ k =>
      rw [hgs k (by omega)]
      have := (i2 _ (List.getElem_mem (show k < dn.length by omega))).1
      omega
  have hpl : ∀ k, k ≤ dn.length → (preS ac dn (2 * (a : Int) + 1) a b k).2.length ≤ 5000 := fun k hk => by
    cases k with
    | zero => rw [hp0]; simp
    | succ k =>
      rw [hps k (by omega)]
      have h1 := hbl k
      have h2 : (k + 1) * (ac.length + 1) ≤ 65 * 65 := Nat.mul_le_mul (by omega) (by omega)
      simp only [List.length_append, List.length_cons, List.length_nil]
      omega
  generalize boSt ac dn (2 * (a : Int) + 1) a b = bs at *
  generalize preS ac dn (2 * (a : Int) + 1) a b = ps at *
  generalize gapS dn b = gp at *
  have hd0 := doneE_nil (2 * b + 1)
  have hdl := doneE_len (2 * b + 1)
  refine Spec.of_wpx tt_ok Try.func48 (by kernel_rfl) rfl ?_
  (repeat' ((conv => whnf); first | refine CondVC.t ?_ | refine CondVC.f ?_ | refine CondVC.dec (fun h => ?_) (fun h => ?_) | refine CondVC.ndec (fun h => ?_) (fun h => ?_) | refine CondVC.mk (fun h => ?_) (fun h => ?_) | refine ArVC.i64 (by first | omega | (simp only; omega)) ?_ | refine SideVC.mk (by first | omega | decide | (simp only; omega) | (simp [slS]; done) | (simp [slS]; omega) | (simp only [byteE_len, mvE_len, strE_len, intE_len, esC_len, List.length_cons, List.length_nil, List.length_append, List.length_replicate, List.length_set, Int.toNat_natCast, and_true] at *; omega)) ?_ | refine LoopN.go ?_ | exact trivial | refine AltVC.mk ?_ ?_ | refine HeldVC.mk rfl ?_ | refine CallVC.res [] rfl h1 rfl ?_ | refine CallVC.res [] rfl h2 rfl ?_ | refine OpVC.more tt_ok ?_ | refine RestVC.ext tt_ok ?_)); all_goals (conv => whnf)
  refine LoopVC.mk (G := Nat) (fun k => ⟨[(13, .v (i64 k)), (12, .v (i64 (gp k))), (11, .v (.c (.sl 3011))), (10, .v (.c (.sl 34))), (8, .v (.c (.sl 2002))), (6, .v (.c (.sl 2001))), (5, .v (i64 (2 * (a : Int) + 1))), (0, .v (i64 a))],
      [(3011, .sl 66 2 (mvE (ps k).2)), (34, .sl 4 1 (doneE (2 * b + 1) (ps k).1)), (2001, .sl 66 2 (mvE ac)), (2002, .sl 66 2 (mvE dn))]⟩)
    (fun k => k ≤ dn.length) (fun k => dn.length + 1 - k) 0 (Nat.zero_le _)
    (Sub.trans (t := ⟨[(13, .v (i64 0)), (12, .v (i64 b)), (11, .v (.c (.sl 3011))), (10, .v (.c (.sl 34))), (8, .v (.c (.sl 2002))), (6, .v (.c (.sl 2001))), (5, .v (i64 (2 * (a : Int) + 1))), (0, .v (i64 a))],
        [(3011, .sl 66 2 []), (34, .sl 4 1 (List.replicate (2 * (b : Int) + 1).toNat [C.bool false])), (2002, .sl 66 2 (mvE dn)), (2001, .sl 66 2 (mvE ac))]⟩)
      (Sub.nil 3011 66 2 ⟨rfl, rfl, rfl, rfl, rfl, rfl, rfl, rfl, trivial⟩ rfl rfl)
      (Sub.mk [] [] ⟨rfl, by rw [hg0]; rfl, rfl, rfl, rfl, rfl, rfl, rfl, trivial⟩ (by rw [hp0, hd0, show (2 * (b : Int) + 1).toNat = 2 * b + 1 by omega]; rfl) rfl)) ?_
  intro k hk
  have hgk := hgr k hk
  have hvk := hvs k hk
  have hplk := hpl k hk
  have hps := hps k
  have hgs := hgs k
  obtain ⟨g, hg⟩ := Int.eq_ofNat_of_zero_le hgk.1
  generalize hpk : ps k = p at *
  obtain ⟨p1, p2⟩ := p
  simp only at hplk
  by_cases hin : gp k ∈ p1
  · have gd : (doneE (2 * b + 1) p1)[(gp k).toNat]? = some [.bool true] := by
      rw [hg, Int.toNat_natCast, doneE_get (by omega), ← hg, decide_eq_true hin]
    unfold visF at hvk
    rw [if_pos hin] at hvk
    have hol := mvE_len p2
    obtain ⟨cur, hcur⟩ : ∃ cur, cur = mvE p2 := ⟨_, rfl⟩
    rw [← hcur] at hol ⊢
    by_cases hkl : k < dn.length
    · have g1 : (mvE dn)[(k : Int).toNat]? = some (mvC dn[k]) := by rw [Int.toNat_natCast]; exact mvE_get hkl
      have hm := i2 _ (List.getElem_mem hkl)
      have hq := hps hkl
      have hgq := hgs hkl
      rw [hvk] at hq
      generalize dn[k] = m at *
      have hp1 : 0 ≤ m.1 * (2 * (a : Int) + 1) ∧ m.1 * (2 * (a : Int) + 1) ≤ 25 := ⟨Int.mul_nonneg (by omega) (by omega), by
        have := Int.mul_le_mul (show m.1 ≤ 5 by omega) (show 2 * (a : Int) + 1 ≤ 5 by omega) (by omega) (by omega)
        omega⟩
      have hp2 : 0 ≤ m.2 * (2 * (a : Int) + 1) ∧ m.2 * (2 * (a : Int) + 1) ≤ 25 := ⟨Int.mul_nonneg (by omega) (by omega), by
        have := Int.mul_le_mul (show m.2 ≤ 5 by omega) (show 2 * (a : Int) + 1 ≤ 5 by omega) (by omega) (by omega)
        omega⟩
      (repeat' ((conv => whnf); first | refine CondVC.t ?_ | refine CondVC.f ?_ | refine CondVC.dec (fun h => ?_) (fun h => ?_) | refine CondVC.ndec (fun h => ?_) (fun h => ?_) | refine CondVC.mk (fun h => ?_) (fun h => ?_) | refine ArVC.i64 (by first | omega | (simp only; omega)) ?_ | refine SideVC.mk (by first | omega | decide | (simp only; omega) | (simp [slS]; done) | (simp [slS]; omega) | (simp only [byteE_len, mvE_len, strE_len, intE_len, esC_len, List.length_cons, List.length_nil, List.length_append, List.length_replicate, List.length_set, Int.toNat_natCast, and_true] at *; omega)) ?_ | refine LoopN.go ?_ | exact trivial | refine AltVC.mk ?_ ?_ | refine HeldVC.mk rfl ?_ | refine LoadVC.mk _ gd ?_ | refine LoadVC.mk _ g1 ?_ | refine SideVC.mk (by rw [hdl]; omega) ?_ | refine SideVC.mk (by rw [hml]; omega) ?_ | refine SideVC.mk (by simp only [hol, List.length_cons, List.length_nil]; omega) ?_ | refine DrawVC.tree (id := 18) tt_ok [2002] tr48_18 (by kernel_rfl) (by kernel_rfl) rfl ?_ | refine OpVC.more tt_ok ?_ | refine RestVC.ext tt_ok ?_)); all_goals (conv => whnf)
      all_goals first
        | (exfalso; omega)
        | exact ⟨k + 1, by omega, by omega, Sub.mk [(3011, 95)] _ ⟨rfl, by rw [hgq]; rfl, rfl, rfl, rfl, rfl, rfl, rfl, trivial⟩ (by simp only [hq, mvE_append, hcur]; rfl) rfl⟩
    · have e : k = dn.length := by omega
      subst e
      rw [hvk]
      (repeat' ((conv => whnf); first | refine CondVC.t ?_ | refine CondVC.f ?_ | refine CondVC.dec (fun h => ?_) (fun h => ?_) | refine CondVC.ndec (fun h => ?_) (fun h => ?_) | refine CondVC.mk (fun h => ?_) (fun h => ?_) | refine ArVC.i64 (by first | omega | (simp only; omega)) ?_ | refine SideVC.mk (by first | omega | decide | (simp only; omega) | (simp [slS]; done) | (simp [slS]; omega) | (simp only [byteE_len, mvE_len, strE_len, intE_len, esC_len, List.length_cons, List.length_nil, List.length_append, List.length_replicate, List.length_set, Int.toNat_natCast, and_true] at *; omega)) ?_ | refine LoopN.go ?_ | exact trivial | refine AltVC.mk ?_ ?_ | refine HeldVC.mk rfl ?_ | refine LoadVC.mk _ gd ?_ | refine SideVC.mk (by rw [hdl]; omega) ?_ | refine OpVC.more tt_ok ?_ | refine RestVC.ext tt_ok ?_)); all_goals (conv => whnf)
      all_goals first
        | (exfalso; omega)
        | exact RetVC.ren [(1001, 3011)] [.c (.sl 1001)] [(1001, .sl 66 2 cur)] rfl rfl rfl ⟨rfl, by simp only [hcur]⟩
  · have gd : (doneE (2 * b + 1) p1)[(gp k).toNat]? = some [.bool false] := by
      rw [hg, Int.toNat_natCast, doneE_get (by omega), ← hg, decide_eq_false hin]
    have hds : (doneE (2 * b + 1) p1).set (gp k).toNat [.bool true] = doneE (2 * b + 1) (p1 ++ [gp k]) := by
      rw [hg, Int.toNat_natCast, doneE_set]
    unfold visF at hvk
    rw [if_neg hin] at hvk
    have hrc : 0 ≤ gp k * (2 * (a : Int) + 1) ∧ gp k * (2 * (a : Int) + 1) ≤ 25 := ⟨Int.mul_nonneg (by omega) (by omega), by
      have := Int.mul_le_mul (show gp k ≤ 5 by omega) (show 2 * (a : Int) + 1 ≤ 5 by omega) (by omega) (by omega)
      omega⟩
    have hol2 : ∀ i, (mvE (p2 ++ (ac.take i).map (rowMv (2 * (a : Int) + 1) (gp k)))).length ≤ 6000 := fun i => by rw [mvE_len]; simp; omega
    (repeat' ((conv => whnf); first | refine CondVC.t ?_ | refine CondVC.f ?_ | refine CondVC.dec (fun h => ?_) (fun h => ?_) | refine CondVC.ndec (fun h => ?_) (fun h => ?_) | refine CondVC.mk (fun h => ?_) (fun h => ?_) | refine ArVC.i64 (by first | omega | (simp only; omega)) ?_ | refine SideVC.mk (by first | omega | decide | (simp only; omega) | (simp [slS]; done) | (simp [slS]; omega) | (simp only [byteE_len, mvE_len, strE_len, intE_len, esC_len, List.length_cons, List.length_nil, List.length_append, List.length_replicate, List.length_set, Int.toNat_natCast, and_true] at *; omega)) ?_ | refine LoopN.go ?_ | exact trivial | refine AltVC.mk ?_ ?_ | refine HeldVC.mk rfl ?_ | refine LoadVC.mk _ gd ?_ | refine SideVC.mk (by rw [hdl]; omega) ?_ | refine OpVC.more tt_ok ?_ | refine RestVC.ext tt_ok ?_)); all_goals (conv => whnf)
    all_goals try (exfalso; omega)
    refine LoopVC.mk (G := Nat) (fun i => ⟨[(48, .v (i64 i)), (47, .v (i64 ac.length)), (46, .v (.c (.sl 2001))), (13, .v (i64 k)), (12, .v (i64 (gp k))), (11, .v (.c (.sl 3012))), (10, .v (.c (.sl 34))), (8, .v (.c (.sl 2002))), (6, .v (.c (.sl 2001))), (5, .v (i64 (2 * (a : Int) + 1))), (0, .v (i64 a))],
        [(3012, .sl 66 2 (mvE (p2 ++ (ac.take i).map (rowMv (2 * (a : Int) + 1) (gp k))))), (34, .sl 4 1 (doneE (2 * b + 1) (p1 ++ [gp k]))), (2001, .sl 66 2 (mvE ac)), (2002, .sl 66 2 (mvE dn))]⟩)
      (fun i => i ≤ ac.length) (fun i => ac.length - i) 0 (Nat.zero_le _)
      (Sub.mk [(3012, 3011)] [] ⟨rfl, by rw [hma]; rfl, rfl, rfl, rfl, rfl, rfl, rfl, rfl, rfl, rfl, trivial⟩ (by simp only [← hds, List.take_zero, List.map_nil, List.append_nil]; rfl) rfl) ?_
    intro i hi
    by_cases hil : i < ac.length
    · have g2 : (mvE ac)[(i : Int).toNat]? = some (mvC ac[i]) := by rw [Int.toNat_natCast]; exact mvE_get hil
      have hmi := i1 _ (List.getElem_mem hil)
      have hstep : mvE (p2 ++ (ac.take (i + 1)).map (rowMv (2 * (a : Int) + 1) (gp k))) = mvE (p2 ++ (ac.take i).map (rowMv (2 * (a : Int) + 1) (gp k))) ++ [mvC (rowMv (2 * (a : Int) + 1) (gp k) ac[i])] := by
        rw [List.take_succ_eq_append_getElem hil, List.map_append, ← List.append_assoc, mvE_append]; rfl
      have hol := hol2 i
      generalize (mvE (p2 ++ (ac.take i).map (rowMv (2 * (a : Int) + 1) (gp k)))) = cur at *
      generalize ac[i] = m at *
      (repeat' ((conv => whnf); first | refine CondVC.t ?_ | refine CondVC.f ?_ | refine CondVC.dec (fun h => ?_) (fun h => ?_) | refine CondVC.ndec (fun h => ?_) (fun h => ?_) | refine CondVC.mk (fun h => ?_) (fun h => ?_) | refine ArVC.i64 (by first | omega | (simp only; omega)) ?_ | refine SideVC.mk (by first | omega | decide | (simp only; omega) | (simp [slS]; done) | (simp [slS]; omega) | (simp only [byteE_len, mvE_len, strE_len, intE_len, esC_len, List.length_cons, List.length_nil, List.length_append, List.length_replicate, List.length_set, Int.toNat_natCast, and_true] at *; omega)) ?_ | refine LoopN.go ?_ | exact trivial | refine AltVC.mk ?_ ?_ | refine HeldVC.mk rfl ?_ | refine LoadVC.mk _ g2 ?_ | refine SideVC.mk (by rw [hma]; omega) ?_ | refine SideVC.mk (by simp only [List.length_cons, List.length_nil]; omega) ?_ | refine OpVC.more tt_ok ?_ | refine RestVC.ext tt_ok ?_)); all_goals (conv => whnf)
      all_goals first
        | (exfalso; omega)
        | exact ⟨i + 1, by omega, by omega, Sub.mk [(3012, 67)] _ ⟨rfl, rfl, rfl, rfl, rfl, rfl, rfl, rfl, rfl, rfl, rfl, trivial⟩ (by simp only [hstep]; rfl) rfl⟩
    · have ei : i = ac.length := by omega
      subst ei
      have hfull : p2 ++ (ac.take ac.length).map (rowMv (2 * (a : Int) + 1) (gp k)) = p2 ++ ac.map (rowMv (2 * (a : Int) + 1) (gp k)) := by rw [List.take_length]
      have hol := hol2 ac.length
      rw [hfull] at hol ⊢
      obtain ⟨cur, hcur⟩ : ∃ cur, cur = mvE (p2 ++ ac.map (rowMv (2 * (a : Int) + 1) (gp k))) := ⟨_, rfl⟩
      rw [← hcur] at hol ⊢
      by_cases hkl : k < dn.length
      · have g1 : (mvE dn)[(k : Int).toNat]? = some (mvC dn[k]) := by rw [Int.toNat_natCast]; exact mvE_get hkl
        have hm := i2 _ (List.getElem_mem hkl)
        have hq := hps hkl
        have hgq := hgs hkl
        rw [hvk] at hq
        generalize dn[k] = m at *
        have hp1 : 0 ≤ m.1 * (2 * (a : Int) + 1) ∧ m.1 * (2 * (a : Int) + 1) ≤ 25 := ⟨Int.mul_nonneg (by omega) (by omega), by
          have := Int.mul_le_mul (show m.1 ≤ 5 by omega) (show 2 * (a : Int) + 1 ≤ 5 by omega) (by omega) (by omega)
          omega⟩
        have hp2 : 0 ≤ m.2 * (2 * (a : Int) + 1) ∧ m.2 * (2 * (a : Int) + 1) ≤ 25 := ⟨Int.mul_nonneg (by omega) (by omega), by
          have := Int.mul_le_mul (show m.2 ≤ 5 by omega) (show 2 * (a : Int) + 1 ≤ 5 by omega) (by omega) (by omega)
          omega⟩
        (repeat' ((conv => whnf); first | refine CondVC.t ?_ | refine CondVC.f ?_ | refine CondVC.dec (fun h => ?_) (fun h => ?_) | refine CondVC.ndec (fun h => ?_) (fun h => ?_) | refine CondVC.mk (fun h => ?_) (fun h => ?_) | refine ArVC.i64 (by first | omega | (simp only; omega)) ?_ | refine SideVC.mk (by first | omega | decide | (simp only; omega) | (simp [slS]; done) | (simp [slS]; omega) | (simp only [byteE_len, mvE_len, strE_len, intE_len, esC_len, List.length_cons, List.length_nil, List.length_append, List.length_replicate, List.length_set, Int.toNat_natCast, and_true] at *; omega)) ?_ | refine LoopN.go ?_ | exact trivial | refine AltVC.mk ?_ ?_ | refine HeldVC.mk rfl ?_ | refine LoadVC.mk _ gd ?_ | refine LoadVC.mk _ g1 ?_ | refine SideVC.mk (by rw [hdl]; omega) ?_ | refine SideVC.mk (by rw [hml]; omega) ?_ | refine SideVC.mk (by simp only [hol, List.length_cons, List.length_nil]; omega) ?_ | refine DrawVC.tree (id := 18) tt_ok [2002] tr48_18 (by kernel_rfl) (by kernel_rfl) rfl ?_ | refine OpVC.more tt_ok ?_ | refine RestVC.ext tt_ok ?_)); all_goals (conv => whnf)
        all_goals first
          | (exfalso; omega)
          | exact ⟨k + 1, by omega, by omega, Sub.mk [(3011, 95)] _ ⟨rfl, by rw [hgq]; rfl, rfl, rfl, rfl, rfl, rfl, rfl, trivial⟩ (by simp only [hq, mvE_append, hcur]; rfl) rfl⟩
      · have e : k = dn.length := by omega
        subst e
        rw [hvk]
        (repeat' ((conv => whnf); first | refine CondVC.t ?_ | refine CondVC.f ?_ | refine CondVC.dec (fun h => ?_) (fun h => ?_) | refine CondVC.ndec (fun h => ?_) (fun h => ?_) | refine CondVC.mk (fun h => ?_) (fun h => ?_) | refine ArVC.i64 (by first | omega | (simp only; omega)) ?_ | refine SideVC.mk (by first | omega | decide | (simp only; omega) | (simp [slS]; done) | (simp [slS]; omega) | (simp only [byteE_len, mvE_len, strE_len, intE_len, esC_len, List.length_cons, List.length_nil, List.length_append, List.length_replicate, List.length_set, Int.toNat_natCast, and_true] at *; omega)) ?_ | refine LoopN.go ?_ | exact trivial | refine AltVC.mk ?_ ?_ | refine HeldVC.mk rfl ?_ | refine LoadVC.mk _ gd ?_ | refine SideVC.mk (by rw [hdl]; omega) ?_ | refine OpVC.more tt_ok ?_ | refine RestVC.ext tt_ok ?_)); all_goals (conv => whnf)
        all_goals first
          | (exfalso; omega)
          | exact RetVC.ren [(1001, 3012)] [.c (.sl 1001)] [(1001, .sl 66 2 cur)] rfl rfl rfl ⟨rfl, by simp only [hcur]⟩
theorem specExchangeBoard_spec (x y : Int) : Spec Try.prog 17 [i64 x, i64 y] [] (isRes [.c (.sl 1001), vb (halvesF x y)] [(1001, .sl 66 2 (mvE (exbL x y)))]) := by
  have h0 := boHalves_spec x y
  unfold exbL
  refine Spec.of_wpx tt_ok Try.func17 (by kernel_rfl) rfl ?_
  cases hn : halvesF x y with
  | false =>
    rw [hn] at h0
    rw [if_neg Bool.false_ne_true]
    (repeat' ((conv => whnf); first | refine CondVC.t ?_ | refine CondVC.f ?_ | refine CondVC.dec (fun h => ?_) (fun h => ?_) | refine CondVC.ndec (fun h => ?_) (fun h => ?_) | refine CondVC.mk (fun h => ?_) (fun h => ?_) | refine ArVC.i64 (by first | omega | (simp only; omega)) ?_ | refine SideVC.mk (by first | omega | decide | (simp only; omega) | (simp [slS]; done) | (simp [slS]; omega) | (simp only [byteE_len, mvE_len, strE_len, intE_len, esC_len, List.length_cons, List.length_nil, List.length_append, List.length_replicate, List.length_set, Int.toNat_natCast, and_true] at *; omega)) ?_ | refine LoopN.go ?_ | exact trivial | refine AltVC.mk ?_ ?_ | refine HeldVC.mk rfl ?_ | refine CallVC.pure h0 rfl ?_ | refine OpVC.more tt_ok ?_ | refine RestVC.ext tt_ok ?_)); all_goals (conv => whnf)
    all_goals exact RetVC.nil 1001 66 2 [.c (.sl 1001), vb false] [] rfl rfl rfl (RetVC.res rfl rfl)
  | true =>
    rw [hn] at h0
    rw [if_pos rfl]
    obtain ⟨a, b, rfl, rfl, ha, hb⟩ := halv_cast hn
    have h1 := boExchange_spec a b ha hb
    generalize (boSt (exchL false a 1 a) (exchL false b 1 b) (2 * (a : Int) + 1) a b (exchL false b 1 b).length).2 = l at *
    (repeat' ((conv => whnf); first | refine CondVC.t ?_ | refine CondVC.f ?_ | refine CondVC.dec (fun h => ?_) (fun h => ?_) | refine CondVC.ndec (fun h => ?_) (fun h => ?_) | refine CondVC.mk (fun h => ?_) (fun h => ?_) | refine ArVC.i64 (by first | omega | (simp only; omega)) ?_ | refine SideVC.mk (by first | omega | decide | (simp only; omega) | (simp [slS]; done) | (simp [slS]; omega) | (simp only [byteE_len, mvE_len, strE_len, intE_len, esC_len, List.length_cons, List.length_nil, List.length_append, List.length_replicate, List.length_set, Int.toNat_natCast, and_true] at *; omega)) ?_ | refine LoopN.go ?_ | exact trivial | refine AltVC.mk ?_ ?_ | refine HeldVC.mk rfl ?_ | refine CallVC.pure h0 rfl ?_ | refine CallVC.res [] rfl h1 rfl ?_ | refine OpVC.more tt_ok ?_ | refine RestVC.ext tt_ok ?_)); all_goals (conv => whnf)
    all_goals exact RetVC.res rfl rfl
theorem lawExchangeBoard_spec (x y : Int) : Spec Try.prog 6 [i64 x, i64 y] [] (isRes [vb true] []) := by
  have h1 := specExchangeBoard_spec x y
  have h2 := implExchangeBoard_spec x y
  have hl := exb_len x y
  generalize exbL x y = l at *
  generalize halvesF x y = b at *
  refine Spec.of_wpx tt_ok Try.func6 (by kernel_rfl) rfl ?_
  cases b
  all_goals
    (repeat' ((conv => whnf); first | refine CondVC.t ?_ | refine CondVC.f ?_ | refine CondVC.dec (fun h => ?_) (fun h => ?_) | refine CondVC.ndec (fun h => ?_) (fun h => ?_) | refine CondVC.mk (fun h => ?_) (fun h => ?_) | refine ArVC.i64 (by first | omega | (simp only; omega)) ?_ | refine SideVC.mk (by first | omega | decide | (simp only; omega) | (simp [slS]; done) | (simp [slS]; omega) | (simp only [byteE_len, mvE_len, strE_len, intE_len, esC_len, List.length_cons, List.length_nil, List.length_append, List.length_replicate, List.length_set, Int.toNat_natCast, and_true] at *; omega)) ?_ | refine LoopN.go ?_ | exact trivial | refine AltVC.mk ?_ ?_ | refine HeldVC.mk rfl ?_ | refine CallVC.res [] rfl (Spec.ren [(1001, 2001)] [(2001, 1001)] h1 rfl rfl rfl) rfl ?_ | refine CallVC.res [] rfl (Spec.ren [(1001, 2002)] [(2002, 1001)] h2 rfl rfl rfl) rfl ?_ | refine CallVC.res [] rfl (Spec.ren [(1001, 2003)] [(2003, 1001)] h2 rfl rfl rfl) rfl ?_ | refine CallVC.res [2002, 2001] rfl (Spec.ren [(1000, 2002), (1001, 2001)] [(2002, 1000), (2001, 1001)] (eqMoveS_self l (by omega)) rfl rfl rfl) rfl ?_ | refine CallVC.res [2003, 2001] rfl (Spec.ren [(1000, 2003), (1001, 2001)] [(2003, 1000), (2001, 1001)] (eqMoveS_self l (by omega)) rfl rfl rfl) rfl ?_ | refine CallVC.res [2002] rfl (Spec.ren [(1000, 2002)] [(2002, 1000)] (markMoveS_spec l 1 (by omega) (by omega)) rfl rfl rfl) rfl ?_ | refine CallVC.res [2002] rfl (Spec.ren [(1000, 2002)] [(2002, 1000)] (heldMoveS_spec l.length 1 (by omega) (by omega)) rfl rfl rfl) rfl ?_ | refine OpVC.more tt_ok ?_ | refine RestVC.ext tt_ok ?_)); all_goals (conv => whnf)
    all_goals first | exact RetVC.res rfl rfl | (exfalso; omega) | (exfalso; simp_all; done)
end Go.Proofs.Ytblihaicbhdbdaa.X
