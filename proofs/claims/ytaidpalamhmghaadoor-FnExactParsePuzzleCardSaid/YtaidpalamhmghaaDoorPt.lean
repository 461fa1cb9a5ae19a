/- FnExactPuzzleText: both functions and the law. No condition beyond the statement's. -/
import Derived.Test.YtaidpalamhmghaaDoorAdd
import Derived.Test.YtaidpalamhmghaaDoorBoardF
import Derived.Test.YtaidpalamhmghaaDoorJoin
import Derived.Test.YtaidpalamhmghaaDoorWord
namespace Go.Proofs.YtaidpalamhmghaaDoor.X
open Go.Proofs
set_option maxRecDepth 100000
set_option linter.unusedVariables false
set_option linter.unusedSimpArgs false
def numT (n : Int) : Tx := if n < 10 then [UInt8.ofNat (48 + n.toNat)] else [49, 48]
theorem n10 {n : Int} (h : 0 ≤ n ∧ n ≤ 10) : n = 0 ∨ n = 1 ∨ n = 2 ∨ n = 3 ∨ n = 4 ∨ n = 5 ∨ n = 6 ∨ n = 7 ∨ n = 8 ∨ n = 9 ∨ n = 10 := by omega
theorem numT_len (n : Int) : (numT n).length ≤ 2 := by unfold numT; split <;> simp
theorem l1Num_small (n : Int) (h : 0 ≤ n ∧ n ≤ 9) : Spec Tryd.prog 137 [i64 n] [] (isRes [.c (.str (numT n))] []) := by
  rcases n10 (n := n) (by omega) with rfl | rfl | rfl | rfl | rfl | rfl | rfl | rfl | rfl | rfl | rfl
  case _ => (refine Spec.of_wpx tt_ok Tryd.func137 (by kernel_rfl) rfl ?_; (repeat' ((conv => whnf); first | refine CondVC.t ?_ | refine CondVC.f ?_ | refine CondVC.dec (fun h => ?_) (fun h => ?_) | refine CondVC.ndec (fun h => ?_) (fun h => ?_) | refine CondVC.mk (fun h => ?_) (fun h => ?_) | refine ArVC.i64 (by first | omega | (simp only; omega)) ?_ | refine SideVC.mk (by first | omega | decide | (simp only; omega) | (simp [slS]; done) | (simp [slS]; omega) | (simp only [byteE_len, mvE_len, strE_len, intE_len, esC_len, List.length_cons, List.length_nil, List.length_append, List.length_replicate, List.length_set, Int.toNat_natCast, and_true] at *; omega)) ?_ | refine LoopN.go ?_ | exact trivial | refine AltVC.mk ?_ ?_ | refine HeldVC.mk rfl ?_ | refine ArVC.fit (by decide) ?_ | refine BytesVC.mk [48] rfl ?_ | refine OpVC.more tt_ok ?_ | refine RestVC.ext tt_ok ?_)); all_goals (conv => whnf); all_goals exact RetVC.res rfl rfl)
  case _ => (refine Spec.of_wpx tt_ok Tryd.func137 (by kernel_rfl) rfl ?_; (repeat' ((conv => whnf); first | refine CondVC.t ?_ | refine CondVC.f ?_ | refine CondVC.dec (fun h => ?_) (fun h => ?_) | refine CondVC.ndec (fun h => ?_) (fun h => ?_) | refine CondVC.mk (fun h => ?_) (fun h => ?_) | refine ArVC.i64 (by first | omega | (simp only; omega)) ?_ | refine SideVC.mk (by first | omega | decide | (simp only; omega) | (simp [slS]; done) | (simp [slS]; omega) | (simp only [byteE_len, mvE_len, strE_len, intE_len, esC_len, List.length_cons, List.length_nil, List.length_append, List.length_replicate, List.length_set, Int.toNat_natCast, and_true] at *; omega)) ?_ | refine LoopN.go ?_ | exact trivial | refine AltVC.mk ?_ ?_ | refine HeldVC.mk rfl ?_ | refine ArVC.fit (by decide) ?_ | refine BytesVC.mk [49] rfl ?_ | refine OpVC.more tt_ok ?_ | refine RestVC.ext tt_ok ?_)); all_goals (conv => whnf); all_goals exact RetVC.res rfl rfl)
  case _ => (refine Spec.of_wpx tt_ok Tryd.func137 (by kernel_rfl) rfl ?_; (repeat' ((conv => whnf); first | refine CondVC.t ?_ | refine CondVC.f ?_ | refine CondVC.dec (fun h => ?_) (fun h => ?_) | refine CondVC.ndec (fun h => ?_) (fun h => ?_) | refine CondVC.mk (fun h => ?_) (fun h => ?_) | refine ArVC.i64 (by first | omega | (simp only; omega)) ?_ | refine SideVC.mk (by first | omega | decide | (simp only; omega) | (simp [slS]; done) | (simp [slS]; omega) | (simp only [byteE_len, mvE_len, strE_len, intE_len, esC_len, List.length_cons, List.length_nil, List.length_append, List.length_replicate, List.length_set, Int.toNat_natCast, and_true] at *; omega)) ?_ | refine LoopN.go ?_ | exact trivial | refine AltVC.mk ?_ ?_ | refine HeldVC.mk rfl ?_ | refine ArVC.fit (by decide) ?_ | refine BytesVC.mk [50] rfl ?_ | refine OpVC.more tt_ok ?_ | refine RestVC.ext tt_ok ?_)); all_goals (conv => whnf); all_goals exact RetVC.res rfl rfl)
  case _ => (refine Spec.of_wpx tt_ok Tryd.func137 (by kernel_rfl) rfl ?_; (repeat' ((conv => whnf); first | refine CondVC.t ?_ | refine CondVC.f ?_ | refine CondVC.dec (fun h => ?_) (fun h => ?_) | refine CondVC.ndec (fun h => ?_) (fun h => ?_) | refine CondVC.mk (fun h => ?_) (fun h => ?_) | refine ArVC.i64 (by first | omega | (simp only; omega)) ?_ | refine SideVC.mk (by first | omega | decide | (simp only; omega) | (simp [slS]; done) | (simp [slS]; omega) | (simp only [byteE_len, mvE_len, strE_len, intE_len, esC_len, List.length_cons, List.length_nil, List.length_append, List.length_replicate, List.length_set, Int.toNat_natCast, and_true] at *; omega)) ?_ | refine LoopN.go ?_ | exact trivial | refine AltVC.mk ?_ ?_ | refine HeldVC.mk rfl ?_ | refine ArVC.fit (by decide) ?_ | refine BytesVC.mk [51] rfl ?_ | refine OpVC.more tt_ok ?_ | refine RestVC.ext tt_ok ?_)); all_goals (conv => whnf); all_goals exact RetVC.res rfl rfl)
  case _ => (refine Spec.of_wpx tt_ok Tryd.func137 (by kernel_rfl) rfl ?_; (repeat' ((conv => whnf); first | refine CondVC.t ?_ | refine CondVC.f ?_ | refine CondVC.dec (fun h => ?_) (fun h => ?_) | refine CondVC.ndec (fun h => ?_) (fun h => ?_) | refine CondVC.mk (fun h => ?_) (fun h => ?_) | refine ArVC.i64 (by first | omega | (simp only; omega)) ?_ | refine SideVC.mk (by first | omega | decide | (simp only; omega) | (simp [slS]; done) | (simp [slS]; omega) | (simp only [byteE_len, mvE_len, strE_len, intE_len, esC_len, List.length_cons, List.length_nil, List.length_append, List.length_replicate, List.length_set, Int.toNat_natCast, and_true] at *; omega)) ?_ | refine LoopN.go ?_ | exact trivial | refine AltVC.mk ?_ ?_ | refine HeldVC.mk rfl ?_ | refine ArVC.fit (by decide) ?_ | refine BytesVC.mk [52] rfl ?_ | refine OpVC.more tt_ok ?_ | refine RestVC.ext tt_ok ?_)); all_goals (conv => whnf); all_goals exact RetVC.res rfl rfl)
  case _ => (refine Spec.of_wpx tt_ok Tryd.func137 (by kernel_rfl) rfl ?_; (repeat' ((conv => whnf); first | refine CondVC.t ?_ | refine CondVC.f ?_ | refine CondVC.dec (fun h => ?_) (fun h => ?_) | refine CondVC.ndec (fun h => ?_) (fun h => ?_) | refine CondVC.mk (fun h => ?_) (fun h => ?_) | refine ArVC.i64 (by first | omega | (simp only; omega)) ?_ | refine SideVC.mk (by first | omega | decide | (simp only; omega) | (simp [slS]; done) | (simp [slS]; omega) | (simp only [byteE_len, mvE_len, strE_len, intE_len, esC_len, List.length_cons, List.length_nil, List.length_append, List.length_replicate, List.length_set, Int.toNat_natCast, and_true] at *; omega)) ?_ | refine LoopN.go ?_ | exact trivial | refine AltVC.mk ?_ ?_ | refine HeldVC.mk rfl ?_ | refine ArVC.fit (by decide) ?_ | refine BytesVC.mk [53] rfl ?_ | refine OpVC.more tt_ok ?_ | refine RestVC.ext tt_ok ?_)); all_goals (conv => whnf); all_goals exact RetVC.res rfl rfl)
  case _ => (refine Spec.of_wpx tt_ok Tryd.func137 (by kernel_rfl) rfl ?_; (repeat' ((conv => whnf); first | refine CondVC.t ?_ | refine CondVC.f ?_ | refine CondVC.dec (fun h => ?_) (fun h => ?_) | refine CondVC.ndec (fun h => ?_) (fun h => ?_) | refine CondVC.mk (fun h => ?_) (fun h => ?_) | refine ArVC.i64 (by first | omega | (simp only; omega)) ?_ | refine SideVC.mk (by first | omega | decide | (simp only; omega) | (simp [slS]; done) | (simp [slS]; omega) | (simp only [byteE_len, mvE_len, strE_len, intE_len, esC_len, List.length_cons, List.length_nil, List.length_append, List.length_replicate, List.length_set, Int.toNat_natCast, and_true] at *; omega)) ?_ | refine LoopN.go ?_ | exact trivial | refine AltVC.mk ?_ ?_ | refine HeldVC.mk rfl ?_ | refine ArVC.fit (by decide) ?_ | refine BytesVC.mk [54] rfl ?_ | refine OpVC.more tt_ok ?_ | refine RestVC.ext tt_ok ?_)); all_goals (conv => whnf); all_goals exact RetVC.res rfl rfl)
  case _ => (refine Spec.of_wpx tt_ok Tryd.func137 (by kernel_rfl) rfl ?_; (repeat' ((conv => whnf); first | refine CondVC.t ?_ | refine CondVC.f ?_ | refine CondVC.dec (fun h => ?_) (fun h => ?_) | refine CondVC.ndec (fun h => ?_) (fun h => ?_) | refine CondVC.mk (fun h => ?_) (fun h => ?_) | refine ArVC.i64 (by first | omega | (simp only; omega)) ?_ | refine SideVC.mk (by first | omega | decide | (simp only; omega) | (simp [slS]; done) | (simp [slS]; omega) | (simp only [byteE_len, mvE_len, strE_len, intE_len, esC_len, List.length_cons, List.length_nil, List.length_append, List.length_replicate, List.length_set, Int.toNat_natCast, and_true] at *; omega)) ?_ | refine LoopN.go ?_ | exact trivial | refine AltVC.mk ?_ ?_ | refine HeldVC.mk rfl ?_ | refine ArVC.fit (by decide) ?_ | refine BytesVC.mk [55] rfl ?_ | refine OpVC.more tt_ok ?_ | refine RestVC.ext tt_ok ?_)); all_goals (conv => whnf); all_goals exact RetVC.res rfl rfl)
  case _ => (refine Spec.of_wpx tt_ok Tryd.func137 (by kernel_rfl) rfl ?_; (repeat' ((conv => whnf); first | refine CondVC.t ?_ | refine CondVC.f ?_ | refine CondVC.dec (fun h => ?_) (fun h => ?_) | refine CondVC.ndec (fun h => ?_) (fun h => ?_) | refine CondVC.mk (fun h => ?_) (fun h => ?_) | refine ArVC.i64 (by first | omega | (simp only; omega)) ?_ | refine SideVC.mk (by first | omega | decide | (simp only; omega) | (simp [slS]; done) | (simp [slS]; omega) | (simp only [byteE_len, mvE_len, strE_len, intE_len, esC_len, List.length_cons, List.length_nil, List.length_append, List.length_replicate, List.length_set, Int.toNat_natCast, and_true] at *; omega)) ?_ | refine LoopN.go ?_ | exact trivial | refine AltVC.mk ?_ ?_ | refine HeldVC.mk rfl ?_ | refine ArVC.fit (by decide) ?_ | refine BytesVC.mk [56] rfl ?_ | refine OpVC.more tt_ok ?_ | refine RestVC.ext tt_ok ?_)); all_goals (conv => whnf); all_goals exact RetVC.res rfl rfl)
  case _ => (refine Spec.of_wpx tt_ok Tryd.func137 (by kernel_rfl) rfl ?_; (repeat' ((conv => whnf); first | refine CondVC.t ?_ | refine CondVC.f ?_ | refine CondVC.dec (fun h => ?_) (fun h => ?_) | refine CondVC.ndec (fun h => ?_) (fun h => ?_) | refine CondVC.mk (fun h => ?_) (fun h => ?_) | refine ArVC.i64 (by first | omega | (simp only; omega)) ?_ | refine SideVC.mk (by first | omega | decide | (simp only; omega) | (simp [slS]; done) | (simp [slS]; omega) | (simp only [byteE_len, mvE_len, strE_len, intE_len, esC_len, List.length_cons, List.length_nil, List.length_append, List.length_replicate, List.length_set, Int.toNat_natCast, and_true] at *; omega)) ?_ | refine LoopN.go ?_ | exact trivial | refine AltVC.mk ?_ ?_ | refine HeldVC.mk rfl ?_ | refine ArVC.fit (by decide) ?_ | refine BytesVC.mk [57] rfl ?_ | refine OpVC.more tt_ok ?_ | refine RestVC.ext tt_ok ?_)); all_goals (conv => whnf); all_goals exact RetVC.res rfl rfl)
  case _ => omega
theorem l1Num_spec (n : Int) (h : 0 ≤ n ∧ n ≤ 10) : Spec Tryd.prog 137 [i64 n] [] (isRes [.c (.str (numT n))] []) := by
  by_cases h9 : n ≤ 9
  · exact l1Num_small n ⟨h.1, h9⟩
  · obtain rfl : n = 10 := by omega
    have h1 : Spec Tryd.prog 137 [i64 1] [] (isRes [.c (.str [49])] []) := l1Num_small 1 (by omega)
    refine Spec.of_wpx tt_ok Tryd.func137 (by kernel_rfl) rfl ?_
    (repeat' ((conv => whnf); first | refine CondVC.t ?_ | refine CondVC.f ?_ | refine CondVC.dec (fun h => ?_) (fun h => ?_) | refine CondVC.ndec (fun h => ?_) (fun h => ?_) | refine CondVC.mk (fun h => ?_) (fun h => ?_) | refine ArVC.i64 (by first | omega | (simp only; omega)) ?_ | refine SideVC.mk (by first | omega | decide | (simp only; omega) | (simp [slS]; done) | (simp [slS]; omega) | (simp only [byteE_len, mvE_len, strE_len, intE_len, esC_len, List.length_cons, List.length_nil, List.length_append, List.length_replicate, List.length_set, Int.toNat_natCast, and_true] at *; omega)) ?_ | refine LoopN.go ?_ | exact trivial | refine AltVC.mk ?_ ?_ | refine HeldVC.mk rfl ?_ | refine ArVC.fit (by decide) ?_ | refine BytesVC.mk [48] rfl ?_ | refine CallVC.pure h1 rfl ?_ | refine DrawVC.tree (id := 3) tt_ok [] tr137_3 (by kernel_rfl) (by kernel_rfl) rfl ?_ | refine OpVC.more tt_ok ?_ | refine RestVC.ext tt_ok ?_)); all_goals (conv => whnf)
    all_goals first | exact RetVC.res rfl rfl | (exfalso; omega)
theorem small_spec (n : Int) (h : 0 ≤ n ∧ n ≤ 10) : Spec Tryd.prog 187 [i64 n] [] (isRes [.c (.str (numT n))] []) := by
  rcases n10 h with rfl | rfl | rfl | rfl | rfl | rfl | rfl | rfl | rfl | rfl | rfl
  all_goals
    refine Spec.of_wpx tt_ok Tryd.func187 (by kernel_rfl) rfl ?_
    (repeat' ((conv => whnf); first | refine CondVC.t ?_ | refine CondVC.f ?_ | refine CondVC.dec (fun h => ?_) (fun h => ?_) | refine CondVC.ndec (fun h => ?_) (fun h => ?_) | refine CondVC.mk (fun h => ?_) (fun h => ?_) | refine ArVC.i64 (by first | omega | (simp only; omega)) ?_ | refine SideVC.mk (by first | omega | decide | (simp only; omega) | (simp [slS]; done) | (simp [slS]; omega) | (simp only [byteE_len, mvE_len, strE_len, intE_len, esC_len, List.length_cons, List.length_nil, List.length_append, List.length_replicate, List.length_set, Int.toNat_natCast, and_true] at *; omega)) ?_ | refine LoopN.go ?_ | exact trivial | refine AltVC.mk ?_ ?_ | refine HeldVC.mk rfl ?_ | refine OpVC.more tt_ok ?_ | refine RestVC.ext tt_ok ?_)); all_goals (conv => whnf)
    all_goals exact RetVC.res rfl rfl
theorem itoa_spec (n : Int) (h : 0 ≤ n ∧ n ≤ 10) : Spec Tryd.prog 112 [i64 n] [] (isRes [.c (.str (numT n))] []) := by
  have h1 := small_spec n h
  generalize numT n = t at *
  have h2 : Spec Tryd.prog 174 [i64 n, i64 10] [] (isRes [.c (.str t)] []) := by
    refine Spec.of_wpx tt_ok Tryd.func174 (by kernel_rfl) rfl ?_
    (repeat' ((conv => whnf); first | refine CondVC.t ?_ | refine CondVC.f ?_ | refine CondVC.dec (fun h => ?_) (fun h => ?_) | refine CondVC.ndec (fun h => ?_) (fun h => ?_) | refine CondVC.mk (fun h => ?_) (fun h => ?_) | refine ArVC.i64 (by first | omega | (simp only; omega)) ?_ | refine SideVC.mk (by first | omega | decide | (simp only; omega) | (simp [slS]; done) | (simp [slS]; omega) | (simp only [byteE_len, mvE_len, strE_len, intE_len, esC_len, List.length_cons, List.length_nil, List.length_append, List.length_replicate, List.length_set, Int.toNat_natCast, and_true] at *; omega)) ?_ | refine LoopN.go ?_ | exact trivial | refine AltVC.mk ?_ ?_ | refine HeldVC.mk rfl ?_ | refine CallVC.pure h1 rfl ?_ | refine OpVC.more tt_ok ?_ | refine RestVC.ext tt_ok ?_)); all_goals (conv => whnf)
    all_goals first | exact RetVC.res rfl rfl | (exfalso; omega)
  have h3 : Spec Tryd.prog 147 [i64 n] [] (isRes [.c (.str t)] []) := by
    refine Spec.of_wpx tt_ok Tryd.func147 (by kernel_rfl) rfl ?_
    (repeat' ((conv => whnf); first | refine CondVC.t ?_ | refine CondVC.f ?_ | refine CondVC.dec (fun h => ?_) (fun h => ?_) | refine CondVC.ndec (fun h => ?_) (fun h => ?_) | refine CondVC.mk (fun h => ?_) (fun h => ?_) | refine ArVC.i64 (by first | omega | (simp only; omega)) ?_ | refine SideVC.mk (by first | omega | decide | (simp only; omega) | (simp [slS]; done) | (simp [slS]; omega) | (simp only [byteE_len, mvE_len, strE_len, intE_len, esC_len, List.length_cons, List.length_nil, List.length_append, List.length_replicate, List.length_set, Int.toNat_natCast, and_true] at *; omega)) ?_ | refine LoopN.go ?_ | exact trivial | refine AltVC.mk ?_ ?_ | refine HeldVC.mk rfl ?_ | refine CallVC.pure h2 rfl ?_ | refine OpVC.more tt_ok ?_ | refine RestVC.ext tt_ok ?_)); all_goals (conv => whnf)
    all_goals first | exact RetVC.res rfl rfl | (exfalso; omega)
  refine Spec.of_wpx tt_ok Tryd.func112 (by kernel_rfl) rfl ?_
  (repeat' ((conv => whnf); first | refine CondVC.t ?_ | refine CondVC.f ?_ | refine CondVC.dec (fun h => ?_) (fun h => ?_) | refine CondVC.ndec (fun h => ?_) (fun h => ?_) | refine CondVC.mk (fun h => ?_) (fun h => ?_) | refine ArVC.i64 (by first | omega | (simp only; omega)) ?_ | refine SideVC.mk (by first | omega | decide | (simp only; omega) | (simp [slS]; done) | (simp [slS]; omega) | (simp only [byteE_len, mvE_len, strE_len, intE_len, esC_len, List.length_cons, List.length_nil, List.length_append, List.length_replicate, List.length_set, Int.toNat_natCast, and_true] at *; omega)) ?_ | refine LoopN.go ?_ | exact trivial | refine AltVC.mk ?_ ?_ | refine HeldVC.mk rfl ?_ | refine CallVC.pure h3 rfl ?_ | refine OpVC.more tt_ok ?_ | refine RestVC.ext tt_ok ?_)); all_goals (conv => whnf)
  all_goals first | exact RetVC.res rfl rfl | (exfalso; omega)

/-! ### Texts of puzzles -/
def clT (c : Cl) : Tx := numT c.1 ++ [46] ++ numT c.2.1 ++ [46] ++ numT c.2.2
def pzT (n : Int) (l : List Cl) : Tx := numT n ++ [58] ++ Lib.join (l.map clT) [44]
theorem clT_len (c : Cl) : (clT c).length ≤ 8 := by
  have h1 := numT_len c.1
  have h2 := numT_len c.2.1
  have h3 := numT_len c.2.2
  unfold clT; simp only [List.length_append, List.length_cons, List.length_nil]; omega
theorem cl_nums {n : Int} {c : Cl} (hn : 1 ≤ n ∧ n ≤ 5) (h : clF n c = true) : (0 ≤ c.1 ∧ c.1 ≤ 10) ∧ (0 ≤ c.2.1 ∧ c.2.1 ≤ 10) ∧ (0 ≤ c.2.2 ∧ c.2.2 ≤ 10) := by
  have h : pzClueF n c.1 c.2.1 c.2.2 = true := h
  unfold pzClueF at h
  split at h
  · simp only [Bool.and_eq_true, decide_eq_true_eq] at h
    exact ⟨by omega, by omega, by omega⟩
  · split at h
    · cases h
    · rename_i hk hb
      have hb0 : c.2.2 = 0 := by simpa using hb
      rw [hb0]
      repeat' split at h
      all_goals first
        | (simp only [decide_eq_true_eq] at h; exact ⟨by omega, by omega, by omega⟩)
        | cases h
theorem good_all {n : Int} {l : List Cl} (h : goodF n l = true) : ∀ c ∈ l, clF n c = true := by
  unfold goodF at h
  simp only [Bool.and_eq_true, List.all_eq_true] at h
  exact h.2.2
theorem join_len8 (l : List Cl) (k : Nat) : (Lib.join ((l.map clT).take k) [44]).length ≤ 9 * k := by
  induction k with
  | zero => simp [Lib.join_nil]
  | succ k ih =>
    by_cases hk : k < (l.map clT).length
    · rw [join_step hk]
      have h8 : ((l.map clT)[k]).length ≤ 8 := by rw [List.getElem_map]; exact clT_len _
      split
      · omega
      · simp only [List.length_append, List.length_cons, List.length_nil]; omega
    · rw [List.take_of_length_le (by omega)]
      rw [List.take_of_length_le (by omega)] at ih
      omega
theorem pzText_spec (n : Int) (l : List Cl) (hg : goodF n l = true) : Spec Tryd.prog 103 [.agg [.int .i64 n, .sl 1000]] [(1000, .sl 70 3 (esC l))] (isRes [.c (.str (pzT n l))] [(1000, .sl 70 3 (esC l))]) := by
  obtain ⟨hn, hl6⟩ := good_n hg
  have hall := good_all hg
  have hnl := esC_len l
  have h0 := l1Num_spec n (by omega)
  have h0l := numT_len n
  have hjl := join_len8 l
  unfold pzT
  generalize numT n = N at *
  refine Spec.of_wpx tt_ok Tryd.func103 (by kernel_rfl) rfl ?_
  (repeat' ((conv => whnf); first | refine CondVC.t ?_ | refine CondVC.f ?_ | refine CondVC.dec (fun h => ?_) (fun h => ?_) | refine CondVC.ndec (fun h => ?_) (fun h => ?_) | refine CondVC.mk (fun h => ?_) (fun h => ?_) | refine ArVC.i64 (by first | omega | (simp only; omega)) ?_ | refine SideVC.mk (by first | omega | decide | (simp only; omega) | (simp [slS]; done) | (simp [slS]; omega) | (simp only [byteE_len, mvE_len, strE_len, intE_len, esC_len, List.length_cons, List.length_nil, List.length_append, List.length_replicate, List.length_set, Int.toNat_natCast, and_true] at *; omega)) ?_ | refine LoopN.go ?_ | exact trivial | refine AltVC.mk ?_ ?_ | refine HeldVC.mk rfl ?_ | refine CallVC.pure h0 rfl ?_ | refine OpVC.more tt_ok ?_ | refine RestVC.ext tt_ok ?_)); all_goals (conv => whnf)
  all_goals try (exfalso; omega)
  refine LoopVC.mk (G := Nat) (fun k => ⟨[(13, .v (i64 k)), (12, .v (i64 (l.length : Nat))), (11, .v (.c (.sl 1000))), (3, .v (.c (.str (N ++ ([58] : Tx) ++ Lib.join ((l.map clT).take k) [44]))))], [(1000, .sl 70 3 (esC l))]⟩)
    (fun k => k ≤ l.length) (fun k => l.length - k) 0 (Nat.zero_le _) (Sub.mk [] _ ⟨rfl, by rw [← hnl]; rfl, rfl, by rw [List.take_zero, Lib.join_nil, List.append_nil]; rfl, trivial⟩ rfl rfl) ?_
  intro k hk
  by_cases hkl : k < l.length
  · have gk : (esC l)[(k : Int).toNat]? = some (clC l[k]) := by rw [Int.toNat_natCast]; exact get_esC hkl
    obtain ⟨r1, r2, r3⟩ := cl_nums hn (hall _ (List.getElem_mem hkl))
    have c1 := l1Num_spec _ r1
    have c2 := l1Num_spec _ r2
    have c3 := l1Num_spec _ r3
    have b1 := numT_len l[k].1
    have b2 := numT_len l[k].2.1
    have b3 := numT_len l[k].2.2
    have hst := join_step (rows := l.map clT) (sep := [44]) (k := k) (by simpa using hkl)
    rw [List.getElem_map] at hst
    have hj1 := hjl k
    have hcl : clT l[k] = numT l[k].1 ++ ([46] : Tx) ++ numT l[k].2.1 ++ ([46] : Tx) ++ numT l[k].2.2 := rfl
    rw [hcl] at hst
    clear hcl
    by_cases hk0 : k = 0
    · subst hk0
      rw [if_pos rfl] at hst
      have e0 : N ++ ([58] : Tx) ++ Lib.join ((l.map clT).take (0 + 1)) [44] = N ++ ([58] : Tx) ++ Lib.join ((l.map clT).take 0) [44] ++ (numT l[0].1 ++ ([46] : Tx) ++ numT l[0].2.1 ++ ([46] : Tx) ++ numT l[0].2.2) := by
        rw [List.take_zero, Lib.join_nil, List.append_nil]
        exact congrArg (fun z => N ++ ([58] : Tx) ++ z) hst
      clear hst
      generalize l[0] = c at *
      obtain ⟨ca, cb, cc⟩ := c
      generalize numT ca = ta at *
      generalize numT cb = tb at *
      generalize numT cc = tc at *
      generalize Lib.join ((l.map clT).take 0) [44] = J at *
      (repeat' ((conv => whnf); first | refine CondVC.t ?_ | refine CondVC.f ?_ | refine CondVC.dec (fun h => ?_) (fun h => ?_) | refine CondVC.ndec (fun h => ?_) (fun h => ?_) | refine CondVC.mk (fun h => ?_) (fun h => ?_) | refine ArVC.i64 (by first | omega | (simp only; omega)) ?_ | refine SideVC.mk (by first | omega | decide | (simp only; omega) | (simp [slS]; done) | (simp [slS]; omega) | (simp only [byteE_len, mvE_len, strE_len, intE_len, esC_len, List.length_cons, List.length_nil, List.length_append, List.length_replicate, List.length_set, Int.toNat_natCast, and_true] at *; omega)) ?_ | refine LoopN.go ?_ | exact trivial | refine AltVC.mk ?_ ?_ | refine HeldVC.mk rfl ?_ | refine LoadVC.mk _ gk ?_ | refine SideVC.mk (by rw [hnl]; omega) ?_ | refine CallVC.pure c1 rfl ?_ | refine CallVC.pure c2 rfl ?_ | refine CallVC.pure c3 rfl ?_ | refine SideVC.mk (by simp only [List.length_append, List.length_cons, List.length_nil]; omega) ?_ | refine DrawVC.tree (id := 7) tt_ok [5] tr103_7 (by kernel_rfl) (by kernel_rfl) rfl ?_ | refine OpVC.more tt_ok ?_ | refine RestVC.ext tt_ok ?_)); all_goals (conv => whnf)
      all_goals first
        | (exfalso; omega)
        | exact ⟨1, hkl, by omega, Sub.mk [] _ ⟨rfl, rfl, rfl, congrArg (fun z => some (E.v (.c (.str z)))) e0.symm, trivial⟩ rfl rfl⟩
    · rw [if_neg hk0] at hst
      have e0 : N ++ ([58] : Tx) ++ Lib.join ((l.map clT).take (k + 1)) [44] = N ++ ([58] : Tx) ++ Lib.join ((l.map clT).take k) [44] ++ ([44] : Tx) ++ (numT l[k].1 ++ ([46] : Tx) ++ numT l[k].2.1 ++ ([46] : Tx) ++ numT l[k].2.2) := by
        refine (congrArg (fun z => N ++ ([58] : Tx) ++ z) hst).trans ?_
        simp only [List.append_assoc]
      clear hst
      generalize l[k] = c at *
      obtain ⟨ca, cb, cc⟩ := c
      generalize numT ca = ta at *
      generalize numT cb = tb at *
      generalize numT cc = tc at *
      generalize Lib.join ((l.map clT).take k) [44] = J at *
      (repeat' ((conv => whnf); first | refine CondVC.t ?_ | refine CondVC.f ?_ | refine CondVC.dec (fun h => ?_) (fun h => ?_) | refine CondVC.ndec (fun h => ?_) (fun h => ?_) | refine CondVC.mk (fun h => ?_) (fun h => ?_) | refine ArVC.i64 (by first | omega | (simp only; omega)) ?_ | refine SideVC.mk (by first | omega | decide | (simp only; omega) | (simp [slS]; done) | (simp [slS]; omega) | (simp only [byteE_len, mvE_len, strE_len, intE_len, esC_len, List.length_cons, List.length_nil, List.length_append, List.length_replicate, List.length_set, Int.toNat_natCast, and_true] at *; omega)) ?_ | refine LoopN.go ?_ | exact trivial | refine AltVC.mk ?_ ?_ | refine HeldVC.mk rfl ?_ | refine LoadVC.mk _ gk ?_ | refine SideVC.mk (by rw [hnl]; omega) ?_ | refine CallVC.pure c1 rfl ?_ | refine CallVC.pure c2 rfl ?_ | refine CallVC.pure c3 rfl ?_ | refine SideVC.mk (by simp only [List.length_append, List.length_cons, List.length_nil]; omega) ?_ | refine DrawVC.tree (id := 7) tt_ok [5] tr103_7 (by kernel_rfl) (by kernel_rfl) rfl ?_ | refine OpVC.more tt_ok ?_ | refine RestVC.ext tt_ok ?_)); all_goals (conv => whnf)
      all_goals first
        | (exfalso; omega)
        | exact ⟨k + 1, hkl, by omega, Sub.mk [] _ ⟨rfl, rfl, rfl, congrArg (fun z => some (E.v (.c (.str z)))) e0.symm, trivial⟩ rfl rfl⟩
  · have e : k = l.length := by omega
    subst e
    rw [show (l.map clT) = (l.map clT).take l.length from by rw [List.take_of_length_le (by simp)]]
    (repeat' ((conv => whnf); first | refine CondVC.t ?_ | refine CondVC.f ?_ | refine CondVC.dec (fun h => ?_) (fun h => ?_) | refine CondVC.ndec (fun h => ?_) (fun h => ?_) | refine CondVC.mk (fun h => ?_) (fun h => ?_) | refine ArVC.i64 (by first | omega | (simp only; omega)) ?_ | refine SideVC.mk (by first | omega | decide | (simp only; omega) | (simp [slS]; done) | (simp [slS]; omega) | (simp only [byteE_len, mvE_len, strE_len, intE_len, esC_len, List.length_cons, List.length_nil, List.length_append, List.length_replicate, List.length_set, Int.toNat_natCast, and_true] at *; omega)) ?_ | refine LoopN.go ?_ | exact trivial | refine AltVC.mk ?_ ?_ | refine HeldVC.mk rfl ?_ | refine OpVC.more tt_ok ?_ | refine RestVC.ext tt_ok ?_)); all_goals (conv => whnf)
    all_goals first
      | (exfalso; omega)
      | exact RetVC.res (by simp [List.take_take]) rfl
end Go.Proofs.YtaidpalamhmghaaDoor.X
