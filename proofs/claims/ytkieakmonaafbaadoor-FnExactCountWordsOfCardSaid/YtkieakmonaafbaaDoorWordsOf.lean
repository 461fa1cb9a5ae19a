/- How many words of so many signs can be played: the program's and the reference's. No condition beyond each statement's. -/
import Derived.Test.YtkieakmonaafbaaDoorCounts
import Derived.Test.YtkieakmonaafbaaDoorEdge
import Derived.Test.YtkieakmonaafbaaDoorCallE
import Derived.Test.YtkieakmonaafbaaDoorCut
namespace Go.Proofs.YtkieakmonaafbaaDoor.X
open Go.Proofs
set_option maxRecDepth 100000
set_option linter.unusedVariables false
set_option linter.unusedSimpArgs false

theorem gap_few {w : Tx} (h : oneGapF w = true) : w.all okCh = true ∧ w.length ≤ 10 := by
  have h' : lineOf w 10 = true := by
    unfold oneGapF at h
    simp only [Bool.and_eq_true] at h
    exact h.1
  unfold lineOf at h'
  simp only [Bool.and_eq_true, decide_eq_true_eq] at h'
  exact ⟨h'.2, by omega⟩

/-! ### The program's -/
def lenW (w : Tx) (n : Nat) : Nat := (endsF w n).length
def lenTo (w : Tx) (n j : Nat) : Nat := (((movesF w both).take j).map fun m => lenW (madeF w m) n).sum
theorem lenW_zero (w : Tx) : lenW w 0 = 1 := rfl
theorem lenTo_zero (w : Tx) (n : Nat) : lenTo w n 0 = 0 := by simp [lenTo]
theorem lenTo_succ (w : Tx) (n : Nat) {j : Nat} (h : j < (movesF w both).length) : lenTo w n (j + 1) = lenTo w n j + lenW (madeF w (movesF w both)[j]) n := by
  unfold lenTo
  rw [List.take_succ_eq_append_getElem h, List.map_append, List.sum_append]
  simp
theorem lenTo_end {w : Tx} {n j : Nat} (h : (movesF w both).length ≤ j) : lenTo w n j = lenW w (n + 1) := by
  unfold lenTo lenW
  rw [List.take_of_length_le h, endsF_first, List.length_flatMap]
  unfold succF
  rw [List.map_map]
  rfl
def wl (w : Tx) (n : Nat) : Int := IntKind.i64.wrap (lenW w n : Nat)
def wlTo (w : Tx) (n j : Nat) : Int := IntKind.i64.wrap (lenTo w n j : Nat)
theorem wlTo_succ (w : Tx) (n : Nat) {j : Nat} (h : j < (movesF w both).length) : IntKind.i64.wrap (wlTo w n j + wl (madeF w (movesF w both)[j]) n) = wlTo w n (j + 1) := by
  unfold wlTo wl
  rw [wrap_add, lenTo_succ w n h]
  congr 1
theorem wlTo_end {w : Tx} {n j : Nat} (h : (movesF w both).length ≤ j) : wlTo w n j = wl w (n + 1) := by unfold wlTo wl; rw [lenTo_end h]
def keyW (w : Tx) (n : Nat) : Tx := w ++ rep [33] n
theorem keyW_inj {w w' : Tx} {n n' : Nat} (h1 : w.all okCh = true) (h2 : w'.all okCh = true) (h : keyW w n = keyW w' n') : w = w' ∧ n = n' := by
  unfold keyW at h
  rw [rep_one, rep_one] at h
  induction w generalizing w' with
  | nil =>
    cases w' with
    | nil =>
      have := congrArg List.length h
      simp at this
      exact ⟨rfl, this⟩
    | cons c w' =>
      simp only [List.all_cons, Bool.and_eq_true] at h2
      have : c ∈ List.replicate n (33 : UInt8) := by
        have : c ∈ [] ++ List.replicate n (33 : UInt8) := by rw [h]; simp
        simpa using this
      rw [(List.mem_replicate.1 this).2] at h2
      exact absurd h2.1 (by decide)
  | cons b w ih =>
    simp only [List.all_cons, Bool.and_eq_true] at h1
    cases w' with
    | nil =>
      have : b ∈ List.replicate n' (33 : UInt8) := by
        have : b ∈ [] ++ List.replicate n' (33 : UInt8) := by rw [← h]; simp
        simpa using this
      rw [(List.mem_replicate.1 this).2] at h1
      exact absurd h1.1 (by decide)
    | cons c w' =>
      simp only [List.all_cons, Bool.and_eq_true] at h2
      simp only [List.cons_append, List.cons.injEq] at h
      obtain ⟨rfl, h⟩ := h
      obtain ⟨e1, e2⟩ := ih h1.2 h2.2 h
      exact ⟨by rw [e1], e2⟩
def okWl (es : List (C × V)) : Prop := ∀ p ∈ es, ∃ w n, w.all okCh = true ∧ p = (.str (keyW w n), i64 (wl w n))
theorem okWl_get {es : List (C × V)} {w : Tx} {n : Nat} {v : V} (hw : w.all okCh = true) (h : okWl es) (hg : getM es (.str (keyW w n)) = some v) : v = i64 (wl w n) := by
  obtain ⟨k, hk, he⟩ := getM_mem hg
  obtain ⟨w', n', hw', e⟩ := h _ hk
  simp only [Prod.mk.injEq] at e
  obtain ⟨rfl, rfl⟩ := e
  simp only [keyEq, decide_eq_true_eq] at he
  obtain ⟨rfl, rfl⟩ := keyW_inj hw hw' he
  rfl
theorem okWl_set {es : List (C × V)} {w : Tx} {n : Nat} (hw : w.all okCh = true) (h : okWl es) : okWl (setM es (.str (keyW w n)) (i64 (wl w n))) := by
  intro p hp
  rcases mem_setM hp with hp | hp
  · exact h p hp
  · exact ⟨w, n, hw, hp⟩
theorem rep_specW (n : Nat) (hn : n ≤ 1000) : Spec Tryd.prog 127 [.c (.str [33]), i64 n] [] (isRes [.c (.str (rep [33] n))] []) := rep_spec [33] n (by simp) hn

def OfS (w : Tx) (n : Nat) : Prop := ∀ es, okWl es → Spec Tryd.prog 72 [.c (.mp 1000), .c (.str w), i64 n] [(1000, .ext (.mp none es))]
  (exRes okWl (fun _ => [i64 (wl w n)]) (fun es' => [(1000, .ext (.mp none es'))]))
theorem of_spec : ∀ (n : Nat) (w : Tx), n ≤ 40 → w.all okCh = true → w.length ≤ 10 → OfS w n
  | 0, w, hn, hok, hw => by
    intro es hes
    have e : wl w 0 = 1 := by unfold wl; rw [lenW_zero]; rfl
    rw [e]
    refine Spec.of_wpx tt_ok Tryd.func72 (by kernel_rfl) rfl ?_
    (repeat' ((conv => whnf); first | refine CondVC.t ?_ | refine CondVC.f ?_ | refine CondVC.dec (fun h => ?_) (fun h => ?_) | refine CondVC.ndec (fun h => ?_) (fun h => ?_) | refine CondVC.mk (fun h => ?_) (fun h => ?_) | refine ArVC.i64 (by first | omega | (simp only; omega)) ?_ | refine SideVC.mk (by first | omega | decide | (simp only; omega) | (simp [slS]; done) | (simp [slS]; omega) | (simp only [byteE_len, mvE_len, strE_len, intE_len, esC_len, List.length_cons, List.length_nil, List.length_append, List.length_replicate, List.length_set, Int.toNat_natCast, and_true] at *; omega)) ?_ | refine LoopN.go ?_ | exact trivial | refine AltVC.mk ?_ ?_ | refine HeldVC.mk rfl ?_ | refine OpVC.more tt_ok ?_ | refine RestVC.ext tt_ok ?_)); all_goals (conv => whnf)
    all_goals first
      | exact RetVC.mk rfl ⟨es, hes, rfl, rfl⟩
      | (exfalso; omega)
  | n + 1, w, hn, hok, hw => by
    intro es hes
    have h0 := rep_specW (n + 1) (by omega)
    have h1 := Spec.ren [(1001, 2001)] [(2001, 1001)] (moves_spec w both (by omega)) rfl rfl rfl
    have hin : ∀ m ∈ movesF w both, _ := fun m hm => movesF_in hm
    have hmok : ∀ m ∈ movesF w both, (madeF w m).all okCh = true := fun m hm => by
      have : Reach w (madeF w m) 1 := ⟨w, rfl, m, hm, rfl⟩
      exact (reach_ok hok this).1
    have hll := movesF_len w both
    have hz : wlTo w n 0 = 0 := by unfold wlTo; rw [lenTo_zero]; rfl
    have hs : ∀ k (h : k < (movesF w both).length), _ := fun k h => wlTo_succ w n h
    have hend : ∀ k, (movesF w both).length ≤ k → wlTo w n k = wl w (n + 1) := fun k h => wlTo_end h
    have hrec : ∀ m ∈ movesF w both, OfS (madeF w m) n := fun m hm => of_spec n (madeF w m) (by omega) (hmok m hm) (by rw [madeF_len]; exact hw)
    have hget : ∀ es v, okWl es → getM es (.str (keyW w (n + 1))) = some v → v = i64 (wl w (n + 1)) := fun es v h h' => okWl_get hok h h'
    have hset : ∀ es, okWl es → okWl (setM es (.str (keyW w (n + 1))) (i64 (wl w (n + 1)))) := fun es h => okWl_set hok h
    have hkey : w ++ rep [33] (n + 1) = keyW w (n + 1) := rfl
    have hkl : (rep [33] (n + 1)).length = n + 1 := by rw [rep_one]; simp
    generalize rep [33] (n + 1) = rp at *
    have hcast : (((n + 1 : Nat) : Int) - 1) = (n : Int) := by omega
    unfold OfS at hrec
    rw [← hcast] at hrec
    generalize keyW w (n + 1) = key at *
    generalize wl w (n + 1) = wf at *
    generalize wlTo w n = pt at *
    generalize hl0 : movesF w both = l at *
    have hml := mvE_len l
    refine Spec.of_wpx tt_ok Tryd.func72 (by kernel_rfl) rfl ?_
    (repeat' ((conv => whnf); first | refine CondVC.t ?_ | refine CondVC.f ?_ | refine CondVC.dec (fun h => ?_) (fun h => ?_) | refine CondVC.ndec (fun h => ?_) (fun h => ?_) | refine CondVC.mk (fun h => ?_) (fun h => ?_) | refine ArVC.i64 (by first | omega | (simp only; omega)) ?_ | refine SideVC.mk (by first | omega | decide | (simp only; omega) | (simp [slS]; done) | (simp [slS]; omega) | (simp only [byteE_len, mvE_len, strE_len, intE_len, esC_len, List.length_cons, List.length_nil, List.length_append, List.length_replicate, List.length_set, Int.toNat_natCast, and_true] at *; omega)) ?_ | refine LoopN.go ?_ | exact trivial | refine AltVC.mk ?_ ?_ | refine HeldVC.mk rfl ?_ | refine CallVC.pure h0 rfl ?_ | refine SideVC.mk (by omega) ?_ | (rw [hkey]; refine LookVC.mk (fun v hv => ?_) (fun hv => ?_); obtain rfl := hget _ _ hes hv) | refine CallVC.res [] rfl h1 rfl ?_ | refine OpVC.more tt_ok ?_ | refine RestVC.ext tt_ok ?_)); all_goals (conv => whnf)
    · exact RetVC.mk rfl ⟨es, hes, rfl, rfl⟩
    refine LoopVC.mk (G := Nat × List (C × V)) (fun γ => ⟨[(30, .v (i64 γ.1)), (29, .v (i64 l.length)), (28, .v (.c (.sl 2001))), (10, .v (i64 (pt γ.1))), (7, .v (.c (.str key))), (2, .v (i64 ((n + 1 : Nat) : Int))), (1, .v (.c (.str w))), (0, .v (.c (.mp 1000)))],
        [(2001, .sl 53 2 (mvE l)), (1000, .ext (.mp none γ.2))]⟩)
      (fun γ => γ.1 ≤ l.length ∧ okWl γ.2) (fun γ => l.length - γ.1) (0, es) ⟨by omega, hes⟩ (Sub.mk [] _ ⟨rfl, by rw [hml]; rfl, rfl, by rw [hz]; rfl, rfl, rfl, rfl, rfl, trivial⟩ rfl rfl) ?_
    rintro ⟨k, es⟩ ⟨hk, hes⟩
    simp only at hk hes
    by_cases hlt : k < l.length
    · have hmem := List.getElem_mem hlt
      have g1 : (mvE l)[(k : Int).toNat]? = some (mvC l[k]) := by rw [Int.toNat_natCast]; exact mvE_get hlt
      have hsk := hs k hlt
      obtain ⟨i1, i2, i3⟩ := hin _ hmem
      have hr := hrec _ hmem es hes
      have hmk := made_spec w l[k] i1 i2 (by omega)
      generalize madeF w l[k] = w' at *
      generalize l[k] = m at *
      generalize wl w' n = q at *
      (repeat' ((conv => whnf); first | refine CondVC.t ?_ | refine CondVC.f ?_ | refine CondVC.dec (fun h => ?_) (fun h => ?_) | refine CondVC.ndec (fun h => ?_) (fun h => ?_) | refine CondVC.mk (fun h => ?_) (fun h => ?_) | refine ArVC.i64 (by first | omega | (simp only; omega)) ?_ | refine SideVC.mk (by first | omega | decide | (simp only; omega) | (simp [slS]; done) | (simp [slS]; omega) | (simp only [byteE_len, mvE_len, strE_len, intE_len, esC_len, List.length_cons, List.length_nil, List.length_append, List.length_replicate, List.length_set, Int.toNat_natCast, and_true] at *; omega)) ?_ | refine LoopN.go ?_ | exact trivial | refine AltVC.mk ?_ ?_ | refine HeldVC.mk rfl ?_ | refine LoadVC.mk _ g1 ?_ | refine SideVC.mk (by rw [hml]; omega) ?_ | refine CallVC.pure hmk rfl ?_ | (refine CallVC.ex [1000] rfl hr ?_; intro es' hes'; refine ⟨rfl, ?_⟩) | refine ArVC.wrap ?_ | refine OpVC.more tt_ok ?_ | refine RestVC.ext tt_ok ?_)); all_goals (conv => whnf)
      all_goals first
        | (exfalso; omega)
        | exact ⟨(k + 1, es'), ⟨by omega, hes'⟩, by simp only; omega, Sub.mk [] _ ⟨rfl, rfl, rfl, by rw [← hsk]; rfl, rfl, rfl, rfl, rfl, trivial⟩ rfl rfl⟩
    · (repeat' ((conv => whnf); first | refine CondVC.t ?_ | refine CondVC.f ?_ | refine CondVC.dec (fun h => ?_) (fun h => ?_) | refine CondVC.ndec (fun h => ?_) (fun h => ?_) | refine CondVC.mk (fun h => ?_) (fun h => ?_) | refine ArVC.i64 (by first | omega | (simp only; omega)) ?_ | refine SideVC.mk (by first | omega | decide | (simp only; omega) | (simp [slS]; done) | (simp [slS]; omega) | (simp only [byteE_len, mvE_len, strE_len, intE_len, esC_len, List.length_cons, List.length_nil, List.length_append, List.length_replicate, List.length_set, Int.toNat_natCast, and_true] at *; omega)) ?_ | refine LoopN.go ?_ | exact trivial | refine AltVC.mk ?_ ?_ | refine HeldVC.mk rfl ?_ | refine OpVC.more tt_ok ?_ | refine RestVC.ext tt_ok ?_)); all_goals (conv => whnf)
      all_goals first
        | (exfalso; omega)
        | (rw [hend k (by omega)]; exact RetVC.mk rfl ⟨_, hset _ hes, rfl, rfl⟩)
def cwOkF (w : Tx) (n : Int) : Bool := oneGapF w && decide (0 ≤ n ∧ n ≤ 40)
def cwF (w : Tx) (n : Int) : Int := if cwOkF w n then wl w n.toNat else 0
theorem implCountWordsOf_spec (w : Tx) (n : Int) (hw : w.length ≤ 1048576) : Spec Tryd.prog 12 [.c (.str w), i64 n] [] (isRes [i64 (cwF w n), vb (cwOkF w n)] []) := by
  have h1 := hasOneGap_spec w hw
  have h2 := within_spec n 0 40
  unfold cwF cwOkF
  refine Spec.of_wpx tt_ok Tryd.func12 (by kernel_rfl) rfl ?_
  cases ha : oneGapF w with
  | false =>
    rw [ha] at h1
    (repeat' ((conv => whnf); first | refine CondVC.t ?_ | refine CondVC.f ?_ | refine CondVC.dec (fun h => ?_) (fun h => ?_) | refine CondVC.ndec (fun h => ?_) (fun h => ?_) | refine CondVC.mk (fun h => ?_) (fun h => ?_) | refine ArVC.i64 (by first | omega | (simp only; omega)) ?_ | refine SideVC.mk (by first | omega | decide | (simp only; omega) | (simp [slS]; done) | (simp [slS]; omega) | (simp only [byteE_len, mvE_len, strE_len, intE_len, esC_len, List.length_cons, List.length_nil, List.length_append, List.length_replicate, List.length_set, Int.toNat_natCast, and_true] at *; omega)) ?_ | refine LoopN.go ?_ | exact trivial | refine AltVC.mk ?_ ?_ | refine HeldVC.mk rfl ?_ | refine CallVC.pure h1 rfl ?_ | refine OpVC.more tt_ok ?_ | refine RestVC.ext tt_ok ?_)); all_goals (conv => whnf)
    all_goals exact RetVC.res rfl rfl
  | true =>
    rw [ha] at h1
    by_cases hn : 0 ≤ n ∧ n ≤ 40
    · rw [decide_eq_true hn] at h2 ⊢
      obtain ⟨k, rfl⟩ := Int.eq_ofNat_of_zero_le hn.1
      have h3 := Spec.renE [(1000, 14)] [(14, 1000)] (of_spec k w (by omega) (gap_few ha).1 (gap_few ha).2 [] (fun p hp => by cases hp)) (fun _ => rfl) (fun _ => rfl) rfl
      have e : (if (true && true) = true then wl w (Int.toNat (k : Int)) else 0) = wl w k := rfl
      rw [e]
      generalize wl w k = q at *
      (repeat' ((conv => whnf); first | refine CondVC.t ?_ | refine CondVC.f ?_ | refine CondVC.dec (fun h => ?_) (fun h => ?_) | refine CondVC.ndec (fun h => ?_) (fun h => ?_) | refine CondVC.mk (fun h => ?_) (fun h => ?_) | refine ArVC.i64 (by first | omega | (simp only; omega)) ?_ | refine SideVC.mk (by first | omega | decide | (simp only; omega) | (simp [slS]; done) | (simp [slS]; omega) | (simp only [byteE_len, mvE_len, strE_len, intE_len, esC_len, List.length_cons, List.length_nil, List.length_append, List.length_replicate, List.length_set, Int.toNat_natCast, and_true] at *; omega)) ?_ | refine LoopN.go ?_ | exact trivial | refine AltVC.mk ?_ ?_ | refine HeldVC.mk rfl ?_ | refine CallVC.pure h1 rfl ?_ | refine CallVC.pure h2 rfl ?_ | (refine CallVC.ex [14] rfl h3 ?_; intro es' hes'; refine ⟨rfl, ?_⟩) | refine OpVC.more tt_ok ?_ | refine RestVC.ext tt_ok ?_)); all_goals (conv => whnf)
      all_goals exact RetVC.res rfl rfl
    · rw [decide_eq_false hn] at h2 ⊢
      (repeat' ((conv => whnf); first | refine CondVC.t ?_ | refine CondVC.f ?_ | refine CondVC.dec (fun h => ?_) (fun h => ?_) | refine CondVC.ndec (fun h => ?_) (fun h => ?_) | refine CondVC.mk (fun h => ?_) (fun h => ?_) | refine ArVC.i64 (by first | omega | (simp only; omega)) ?_ | refine SideVC.mk (by first | omega | decide | (simp only; omega) | (simp [slS]; done) | (simp [slS]; omega) | (simp only [byteE_len, mvE_len, strE_len, intE_len, esC_len, List.length_cons, List.length_nil, List.length_append, List.length_replicate, List.length_set, Int.toNat_natCast, and_true] at *; omega)) ?_ | refine LoopN.go ?_ | exact trivial | refine AltVC.mk ?_ ?_ | refine HeldVC.mk rfl ?_ | refine CallVC.pure h1 rfl ?_ | refine CallVC.pure h2 rfl ?_ | refine OpVC.more tt_ok ?_ | refine RestVC.ext tt_ok ?_)); all_goals (conv => whnf)
      all_goals exact RetVC.res rfl rfl

/-! ### The reference's -/
theorem lenW_sum (w : Tx) (k : Nat) : lenW w k = ((layF w k).map fun v => numF w k v).sum := by
  have h := sum_group (fun _ => 1) (layF w k) (sortedT_nodup (lay_sorted w k)) (endsF w k) fun u hu => endsF_mem.1 hu
  have e : ∀ l : List Tx, (l.map fun _ => 1).sum = l.length := fun l => by
    induction l with
    | nil => rfl
    | cons a l ih => rw [List.map_cons, List.sum_cons, ih, List.length_cons]; omega
  rw [e] at h
  unfold lenW
  rw [h]
  congr 1
  refine List.map_congr_left fun v _ => ?_
  show numF w k v * 1 = _
  omega
theorem lenW_none {w : Tx} {k : Nat} (h : depthF w < k) : lenW w k = 0 := by
  have : layF w k = [] := by
    apply Classical.byContradiction
    intro hn
    have := depth_iff.1 hn
    omega
  rw [lenW_sum, this]; rfl
def sumW (c : Tx → Nat) (l : List Tx) (i : Nat) : Int := IntKind.i64.wrap (((l.take i).map c).sum : Nat)
theorem sumW_zero (c : Tx → Nat) (l : List Tx) : sumW c l 0 = 0 := rfl
theorem sumW_succ (c : Tx → Nat) (l : List Tx) {i : Nat} (h : i < l.length) : IntKind.i64.wrap (sumW c l i + IntKind.i64.wrap (c l[i] : Nat)) = sumW c l (i + 1) := by
  unfold sumW
  rw [wrap_add, List.take_succ_eq_append_getElem h, List.map_append, List.sum_append]
  simp
theorem sumW_end (w : Tx) (k : Nat) {i : Nat} (h : (layF w k).length ≤ i) : sumW (numF w k) (layF w k) i = wl w k := by
  unfold sumW wl
  rw [List.take_of_length_le h, lenW_sum]
def trW : Tr := .take 0 (.take 1 (.take 2 (.take 5 (.take 6 (.take 7 (.alt 3 (.alt 4 (.alt 8 (.alt 9 (.alt 10 (.take 11 .done) .no) .no) .no) (.alt 8 (.alt 4 (.alt 9 (.alt 10 (.take 11 .done) .no) .no) (.alt 9 (.alt 4 (.alt 10 (.take 11 .done) .no) .no) .no)) .no)) (.alt 8 (.alt 3 (.alt 4 (.alt 9 (.alt 10 (.take 11 .done) .no) .no) (.alt 9 (.alt 4 (.alt 10 (.take 11 .done) .no) .no) .no)) (.alt 9 (.alt 3 (.alt 4 (.alt 10 (.take 11 .done) .no) .no) .no) .no)) .no)))))))
theorem woCount_spec (w : Tx) (n : Nat) (hn : n ≤ 40) (hok : w.all okCh = true) (hw : w.length ≤ 10) : Spec Tryd.prog 69 [.c (.str w), i64 n] [] (isRes [i64 (wl w n)] []) := by
  have hw14 : w.length ≤ 14 := by omega
  have h3 := Spec.ren [(1001, 2001)] [(2001, 1001)] (reLayers_spec w hok hw14) rfl rfl rfl
  have hget : ∀ k, k < depthF w + 1 → (nestF w)[k]? = some (strE (layF w k)) := fun k hk => nestTo_get hk
  have hel : (nestF w).length = depthF w + 1 := nestTo_len w _
  have hD := depth_pot w
  have hpp := pot_small hw14
  have hnone : depthF w < n → wl w n = 0 := fun h => by unfold wl; rw [lenW_none h]; rfl
  have hfew := fun k => lay_few hok hw14 k
  have hstep : ∀ k, sumI (numF w k) (layF w k) (layF w k).length = numF w (k + 1) := fun k => funext (sumI_lay w k)
  have hlok : ∀ k, ∀ u ∈ layF w k, u.all okCh = true ∧ u.length ≤ 14 := fun k u hu => by
    obtain ⟨a, b, _⟩ := reach_ok hok (lay_mem.1 hu)
    exact ⟨a, by omega⟩
  have hc0 : [[C.int .i64 1]] = cntE (numF w 0) (layF w 0) := by
    show _ = cntE (numF w 0) [w]
    have : numF w 0 w = 1 := by simp [numF, endsF]
    unfold cntE; rw [List.map_cons, this]; rfl
  have hsz := sumW_zero (numF w n) (layF w n)
  have hss := fun i (h : i < (layF w n).length) => sumW_succ (numF w n) (layF w n) h
  have hse := fun i (h : (layF w n).length ≤ i) => sumW_end w n h
  generalize layF w = ly at *
  generalize wl w n = q at *
  generalize nestF w = ne at *
  generalize depthF w = D at *
  generalize numF w = nf at *
  refine Spec.of_wpx tt_ok Tryd.func69 (by kernel_rfl) rfl ?_
  (repeat' ((conv => whnf); first | refine CondVC.t ?_ | refine CondVC.f ?_ | refine CondVC.dec (fun h => ?_) (fun h => ?_) | refine CondVC.ndec (fun h => ?_) (fun h => ?_) | refine CondVC.mk (fun h => ?_) (fun h => ?_) | refine ArVC.i64 (by first | omega | (simp only; omega)) ?_ | refine SideVC.mk (by first | omega | decide | (simp only; omega) | (simp [slS]; done) | (simp [slS]; omega) | (simp only [byteE_len, mvE_len, strE_len, intE_len, esC_len, List.length_cons, List.length_nil, List.length_append, List.length_replicate, List.length_set, Int.toNat_natCast, and_true] at *; omega)) ?_ | refine LoopN.go ?_ | exact trivial | refine AltVC.mk ?_ ?_ | refine HeldVC.mk rfl ?_ | refine CallVC.res [] rfl h3 rfl ?_ | refine OpVC.more tt_ok ?_ | refine RestVC.ext tt_ok ?_)); all_goals (conv => whnf)
  · rw [hnone (by omega)]
    exact RetVC.res rfl rfl
  refine LoopVC.mk (G := Nat) (fun k => ⟨[(7, .v (i64 ((k + 1 : Nat) : Int))), (6, .v (.c (.sl 3001))), (5, .v (.c (.sl 2001))), (1, .v (i64 n))], [(2001, .ext (.nest 78 9 1 ne [])), (3001, .sl 3 1 (cntE (nf k) (ly k)))]⟩)
    (fun k => k ≤ n) (fun k => n - k) 0 (Nat.zero_le _) (Sub.mk [(3001, 17)] _ ⟨rfl, rfl, rfl, rfl, trivial⟩ (by rw [← hc0]; rfl) rfl) ?_
  intro k hk
  by_cases hkl : k < n
  · have g0 : ne[((k + 1 : Nat) : Int).toNat]? = some (strE (ly (k + 1))) := by rw [Int.toNat_natCast]; exact hget _ (by omega)
    have g1 : ne[(((k + 1 : Nat) : Int) - 1).toNat]? = some (strE (ly k)) := by
      rw [show (((k + 1 : Nat) : Int) - 1).toNat = k by omega]; exact hget k (by omega)
    have hh2 : holeAt [((((k + 1 : Nat) : Int) - 1).toNat, 9001)] ((k + 1 : Nat) : Int).toNat = none := by
      unfold holeAt
      rw [if_neg (by omega)]; rfl
    have hrc := Spec.ren [(1000, 9001), (1001, 3001), (1002, 9002), (1003, 3003)] [(9001, 1000), (3001, 1001), (9002, 1002), (3003, 1003)] (reCounts_spec (ly k) (ly (k + 1)) (nf k) (hfew k) (hfew (k + 1)) (hlok k)) rfl rfl rfl
    rw [hstep k] at hrc
    generalize hly : ly (k + 1) = l at *
    generalize hnf : nf (k + 1) = c at *
    generalize ly k = l0 at *
    generalize nf k = c0 at *
    (repeat' ((conv => whnf); first | refine CondVC.t ?_ | refine CondVC.f ?_ | refine CondVC.dec (fun h => ?_) (fun h => ?_) | refine CondVC.ndec (fun h => ?_) (fun h => ?_) | refine CondVC.mk (fun h => ?_) (fun h => ?_) | refine ArVC.i64 (by first | omega | (simp only; omega)) ?_ | refine SideVC.mk (by first | omega | decide | (simp only; omega) | (simp [slS]; done) | (simp [slS]; omega) | (simp only [byteE_len, mvE_len, strE_len, intE_len, esC_len, List.length_cons, List.length_nil, List.length_append, List.length_replicate, List.length_set, Int.toNat_natCast, and_true] at *; omega)) ?_ | refine LoopN.go ?_ | exact trivial | refine AltVC.mk ?_ ?_ | refine HeldVC.mk rfl ?_ | refine DrawVC.tree tt_ok [] trW (by kernel_rfl) (by kernel_rfl) rfl ?_ | refine RestVC2.nestAddr tt_ok rfl rfl rfl rfl rfl (by rw [hel]; omega) ?_ | refine RestVC2.nestLoad tt_ok rfl rfl rfl rfl (by rw [hel]; omega) ?_ | (refine CallVC.inner 9001 2001 (((k + 1 : Nat) : Int) - 1).toNat [.c (.sl 9001), .c (.sl 3001), .c (.ins 2001 ((k + 1 : Nat) : Int).toNat)] rfl rfl g1 rfl rfl ?_; refine CallVC.inner 9002 2001 ((k + 1 : Nat) : Int).toNat [.c (.sl 9001), .c (.sl 3001), .c (.sl 9002)] rfl rfl g0 hh2 rfl ?_; refine CallVC.res [9001, 3001, 9002] rfl hrc rfl ?_; refine BackVC.same rfl rfl g0 hh2 rfl ?_; refine BackVC.same rfl rfl g1 rfl rfl ?_) | refine OpVC.more tt_ok ?_ | refine RestVC.ext tt_ok ?_)); all_goals (conv => whnf)
    all_goals first
      | (exfalso; omega)
      | exact ⟨k + 1, by omega, by omega, Sub.mk [(3001, 3003)] _ ⟨rfl, rfl, rfl, rfl, trivial⟩ (by rw [hly, hnf]; rfl) rfl⟩

  · have hkn : k = n := by omega
    subst hkn
    have hfk := hfew k
    generalize hly : ly k = l at *
    generalize hnf : nf k = c at *
    have hcl := cntE_len c l
    (repeat' ((conv => whnf); first | refine CondVC.t ?_ | refine CondVC.f ?_ | refine CondVC.dec (fun h => ?_) (fun h => ?_) | refine CondVC.ndec (fun h => ?_) (fun h => ?_) | refine CondVC.mk (fun h => ?_) (fun h => ?_) | refine ArVC.i64 (by first | omega | (simp only; omega)) ?_ | refine SideVC.mk (by first | omega | decide | (simp only; omega) | (simp [slS]; done) | (simp [slS]; omega) | (simp only [byteE_len, mvE_len, strE_len, intE_len, esC_len, List.length_cons, List.length_nil, List.length_append, List.length_replicate, List.length_set, Int.toNat_natCast, and_true] at *; omega)) ?_ | refine LoopN.go ?_ | exact trivial | refine AltVC.mk ?_ ?_ | refine HeldVC.mk rfl ?_ | refine OpVC.more tt_ok ?_ | refine RestVC.ext tt_ok ?_)); all_goals (conv => whnf)
    all_goals try (exfalso; omega)
    refine LoopVC.mk (G := Nat) (fun i => ⟨[(36, .v (i64 i)), (35, .v (i64 l.length)), (34, .v (.c (.sl 3001))), (8, .v (i64 (sumW c l i)))], [(3001, .sl 3 1 (cntE c l))]⟩)
      (fun i => i ≤ l.length) (fun i => l.length - i) 0 (Nat.zero_le _) (Sub.mk [] _ ⟨rfl, by rw [hcl]; rfl, rfl, rfl, trivial⟩ rfl rfl) ?_
    intro i hi
    by_cases hil : i < l.length
    · have gc : (cntE c l)[(i : Int).toNat]? = some (wn (c l[i])) := by rw [Int.toNat_natCast]; exact cntE_get hil
      have hs := hss i hil
      (repeat' ((conv => whnf); first | refine CondVC.t ?_ | refine CondVC.f ?_ | refine CondVC.dec (fun h => ?_) (fun h => ?_) | refine CondVC.ndec (fun h => ?_) (fun h => ?_) | refine CondVC.mk (fun h => ?_) (fun h => ?_) | refine ArVC.i64 (by first | omega | (simp only; omega)) ?_ | refine SideVC.mk (by first | omega | decide | (simp only; omega) | (simp [slS]; done) | (simp [slS]; omega) | (simp only [byteE_len, mvE_len, strE_len, intE_len, esC_len, List.length_cons, List.length_nil, List.length_append, List.length_replicate, List.length_set, Int.toNat_natCast, and_true] at *; omega)) ?_ | refine LoopN.go ?_ | exact trivial | refine AltVC.mk ?_ ?_ | refine HeldVC.mk rfl ?_ | refine LoadVC.mk _ gc ?_ | refine SideVC.mk (by simp only [hcl]; omega) ?_ | refine ArVC.wrap ?_ | refine OpVC.more tt_ok ?_ | refine RestVC.ext tt_ok ?_)); all_goals (conv => whnf)
      all_goals first
        | (exfalso; omega)
        | exact ⟨i + 1, by omega, by omega, Sub.mk [] _ ⟨rfl, rfl, rfl, by rw [← hs]; rfl, trivial⟩ rfl rfl⟩
    · have he := hse i (by omega)
      (repeat' ((conv => whnf); first | refine CondVC.t ?_ | refine CondVC.f ?_ | refine CondVC.dec (fun h => ?_) (fun h => ?_) | refine CondVC.ndec (fun h => ?_) (fun h => ?_) | refine CondVC.mk (fun h => ?_) (fun h => ?_) | refine ArVC.i64 (by first | omega | (simp only; omega)) ?_ | refine SideVC.mk (by first | omega | decide | (simp only; omega) | (simp [slS]; done) | (simp [slS]; omega) | (simp only [byteE_len, mvE_len, strE_len, intE_len, esC_len, List.length_cons, List.length_nil, List.length_append, List.length_replicate, List.length_set, Int.toNat_natCast, and_true] at *; omega)) ?_ | refine LoopN.go ?_ | exact trivial | refine AltVC.mk ?_ ?_ | refine HeldVC.mk rfl ?_ | refine OpVC.more tt_ok ?_ | refine RestVC.ext tt_ok ?_)); all_goals (conv => whnf)
      all_goals first
        | (exfalso; omega)
        | (rw [← he]; exact RetVC.res rfl rfl)
theorem specCountWordsOf_spec (w : Tx) (n : Int) (hw : w.length ≤ 1048576) : Spec Tryd.prog 11 [.c (.str w), i64 n] [] (isRes [i64 (cwF w n), vb (cwOkF w n)] []) := by
  have h1 := woOne_spec w hw
  have h2 := l1In_spec n 0 40
  unfold cwF cwOkF
  refine Spec.of_wpx tt_ok Tryd.func11 (by kernel_rfl) rfl ?_
  cases ha : oneGapF w with
  | false =>
    rw [ha] at h1
    (repeat' ((conv => whnf); first | refine CondVC.t ?_ | refine CondVC.f ?_ | refine CondVC.dec (fun h => ?_) (fun h => ?_) | refine CondVC.ndec (fun h => ?_) (fun h => ?_) | refine CondVC.mk (fun h => ?_) (fun h => ?_) | refine ArVC.i64 (by first | omega | (simp only; omega)) ?_ | refine SideVC.mk (by first | omega | decide | (simp only; omega) | (simp [slS]; done) | (simp [slS]; omega) | (simp only [byteE_len, mvE_len, strE_len, intE_len, esC_len, List.length_cons, List.length_nil, List.length_append, List.length_replicate, List.length_set, Int.toNat_natCast, and_true] at *; omega)) ?_ | refine LoopN.go ?_ | exact trivial | refine AltVC.mk ?_ ?_ | refine HeldVC.mk rfl ?_ | refine CallVC.pure h1 rfl ?_ | refine OpVC.more tt_ok ?_ | refine RestVC.ext tt_ok ?_)); all_goals (conv => whnf)
    all_goals exact RetVC.res rfl rfl
  | true =>
    rw [ha] at h1
    by_cases hn : 0 ≤ n ∧ n ≤ 40
    · rw [decide_eq_true hn] at h2 ⊢
      obtain ⟨k, rfl⟩ := Int.eq_ofNat_of_zero_le hn.1
      have h3 := woCount_spec w k (by omega) (gap_few ha).1 (gap_few ha).2
      have e : (if (true && true) = true then wl w (Int.toNat (k : Int)) else 0) = wl w k := rfl
      rw [e]
      generalize wl w k = q at *
      (repeat' ((conv => whnf); first | refine CondVC.t ?_ | refine CondVC.f ?_ | refine CondVC.dec (fun h => ?_) (fun h => ?_) | refine CondVC.ndec (fun h => ?_) (fun h => ?_) | refine CondVC.mk (fun h => ?_) (fun h => ?_) | refine ArVC.i64 (by first | omega | (simp only; omega)) ?_ | refine SideVC.mk (by first | omega | decide | (simp only; omega) | (simp [slS]; done) | (simp [slS]; omega) | (simp only [byteE_len, mvE_len, strE_len, intE_len, esC_len, List.length_cons, List.length_nil, List.length_append, List.length_replicate, List.length_set, Int.toNat_natCast, and_true] at *; omega)) ?_ | refine LoopN.go ?_ | exact trivial | refine AltVC.mk ?_ ?_ | refine HeldVC.mk rfl ?_ | refine CallVC.pure h1 rfl ?_ | refine CallVC.pure h2 rfl ?_ | refine CallVC.pure h3 rfl ?_ | refine OpVC.more tt_ok ?_ | refine RestVC.ext tt_ok ?_)); all_goals (conv => whnf)
      all_goals exact RetVC.res rfl rfl
    · rw [decide_eq_false hn] at h2 ⊢
      (repeat' ((conv => whnf); first | refine CondVC.t ?_ | refine CondVC.f ?_ | refine CondVC.dec (fun h => ?_) (fun h => ?_) | refine CondVC.ndec (fun h => ?_) (fun h => ?_) | refine CondVC.mk (fun h => ?_) (fun h => ?_) | refine ArVC.i64 (by first | omega | (simp only; omega)) ?_ | refine SideVC.mk (by first | omega | decide | (simp only; omega) | (simp [slS]; done) | (simp [slS]; omega) | (simp only [byteE_len, mvE_len, strE_len, intE_len, esC_len, List.length_cons, List.length_nil, List.length_append, List.length_replicate, List.length_set, Int.toNat_natCast, and_true] at *; omega)) ?_ | refine LoopN.go ?_ | exact trivial | refine AltVC.mk ?_ ?_ | refine HeldVC.mk rfl ?_ | refine CallVC.pure h1 rfl ?_ | refine CallVC.pure h2 rfl ?_ | refine OpVC.more tt_ok ?_ | refine RestVC.ext tt_ok ?_)); all_goals (conv => whnf)
      all_goals exact RetVC.res rfl rfl
theorem lawCountWordsOf_spec (w : Tx) (hw : w.length ≤ 9223372036854775807) (n : Int) : Spec Tryd.prog 3 [.c (.str w), i64 n] [] (isRes [vb true] []) := by
  refine Spec.of_wpx tt_ok Tryd.func3 (by kernel_rfl) rfl ?_
  (repeat' ((conv => whnf); first | refine CondVC.t ?_ | refine CondVC.f ?_ | refine CondVC.dec (fun h => ?_) (fun h => ?_) | refine CondVC.ndec (fun h => ?_) (fun h => ?_) | refine CondVC.mk (fun h => ?_) (fun h => ?_) | refine ArVC.i64 (by first | omega | (simp only; omega)) ?_ | refine SideVC.mk (by first | omega | decide | (simp only; omega) | (simp [slS]; done) | (simp [slS]; omega) | (simp only [byteE_len, mvE_len, strE_len, intE_len, esC_len, List.length_cons, List.length_nil, List.length_append, List.length_replicate, List.length_set, Int.toNat_natCast, and_true] at *; omega)) ?_ | refine LoopN.go ?_ | exact trivial | refine AltVC.mk ?_ ?_ | refine HeldVC.mk rfl ?_ | refine CallVC.pure (specCountWordsOf_spec w n (by omega)) rfl ?_ | refine CallVC.pure (implCountWordsOf_spec w n (by omega)) rfl ?_ | refine OpVC.more tt_ok ?_ | refine RestVC.ext tt_ok ?_)); all_goals (conv => whnf)
  all_goals first | exact RetVC.res rfl rfl | (exfalso; simp_all; done)
end Go.Proofs.YtkieakmonaafbaaDoor.X
