/- Free moves: by recursion in the reference, with a memo in the program. No condition beyond each statement's. -/
import Derived.Test.YtjpabjmcooiflaaDoorKind
import Derived.Test.YtjpabjmcooiflaaDoorWayF
namespace Go.Proofs.YtjpabjmcooiflaaDoor.X
open Go.Proofs
set_option maxRecDepth 100000
set_option linter.unusedVariables false
set_option linter.unusedSimpArgs false

theorem foldl_take {α β : Type} {f : β → α → β} {b : β} {l : List α} {k : Nat} (h : k < l.length) : (l.take (k + 1)).foldl f b = f ((l.take k).foldl f b) l[k] := by
  rw [List.take_succ_eq_append_getElem h, List.foldl_append]; rfl
theorem maxEq (a b : Int) : (if a < b then b else a) = max a b := by
  rw [Int.max_def]; split <;> split <;> omega
def freeStep (w kind : Tx) (a : Int) (m : Mv) : Int := max a (1 + freeF (madeF w m) kind)
def freeTo (w kind : Tx) (k : Nat) : Int := ((movesF w kind).take k).foldl (freeStep w kind) 0
theorem freeTo_end (w kind : Tx) {k : Nat} (h : (movesF w kind).length ≤ k) : freeTo w kind k = freeF w kind := by
  unfold freeTo; rw [List.take_of_length_le h, freeF_eq]; rfl
theorem freeTo_bound (w kind : Tx) (k : Nat) : 0 ≤ freeTo w kind k ∧ freeTo w kind k ≤ wayF w := by
  unfold freeTo
  refine ⟨le_foldl_max (g := fun m => 1 + freeF (madeF w m) kind), foldl_max_le (g := fun m => 1 + freeF (madeF w m) kind) (by omega) fun m hm => ?_⟩
  have h1 := way_made (List.mem_of_mem_take hm)
  have h2 := freeF_bound kind _ (madeF w m) (Nat.le_refl _)
  omega
theorem way_small {w : Tx} (h : w.length ≤ 1000) : wayF w ≤ 1000000 := by
  have h1 := wayF_le w
  have h2 := Nat.mul_le_mul h h
  omega

theorem gaFree_spec (toads : Bool) : ∀ (n : Nat) (w : Tx), wayF w < n → w.all okCh = true → w.length ≤ 1000 →
    Spec Tryd.prog 49 [.c (.str w), vb toads] [] (isRes [i64 (freeF w (kindsF toads (!toads)))] [])
  | 0, w, hn, _, _ => absurd hn (Nat.not_lt_zero _)
  | n + 1, w, hn, hok, hw => by
    have h1 := liMoves_spec w toads (!toads) hok (by omega)
    rw [liMoves_eq hok] at h1
    have hin : ∀ m ∈ movesF w (kindsF toads (!toads)), _ := fun m hm => movesF_in hm
    have hway : ∀ m ∈ movesF w (kindsF toads (!toads)), _ := fun m hm => way_made hm
    have hend : ∀ k, (movesF w (kindsF toads (!toads))).length ≤ k → _ := fun k h => freeTo_end w (kindsF toads (!toads)) h
    have hll := movesF_len w (kindsF toads (!toads))
    have hsucc : ∀ k (h : k < (movesF w (kindsF toads (!toads))).length), freeTo w (kindsF toads (!toads)) (k + 1) = max (freeTo w (kindsF toads (!toads)) k) (1 + freeF (madeF w (movesF w (kindsF toads (!toads)))[k]) (kindsF toads (!toads))) := fun k h => foldl_take h
    have hzero : freeTo w (kindsF toads (!toads)) 0 = 0 := rfl
    have hbd := freeTo_bound w (kindsF toads (!toads))
    have hws := way_small hw
    have hrec : ∀ m : Mv, wayF (madeF w m) < wayF w → m.1.toNat < w.length → Spec Tryd.prog 49 [.c (.str (madeF w m)), vb toads] [] (isRes [i64 (freeF (madeF w m) (kindsF toads (!toads)))] []) :=
      fun m hm hl => gaFree_spec toads n (madeF w m) (by omega) (okCh_made hok hl) (by rw [madeF_len]; exact hw)
    have hfb : ∀ m, _ := fun m => freeF_bound (kindsF toads (!toads)) _ (madeF w m) (Nat.le_refl _)
    generalize freeTo w (kindsF toads (!toads)) = ft at *
    generalize kindsF toads (!toads) = kd at *
    generalize movesF w kd = l at *
    have hml := mvE_len l
    refine Spec.of_wpx tt_ok Tryd.func49 (by kernel_rfl) rfl ?_
    (repeat' ((conv => whnf); first | refine CondVC.t ?_ | refine CondVC.f ?_ | refine CondVC.dec (fun h => ?_) (fun h => ?_) | refine CondVC.ndec (fun h => ?_) (fun h => ?_) | refine CondVC.mk (fun h => ?_) (fun h => ?_) | refine ArVC.i64 (by omega) ?_ | refine SideVC.mk (by first | omega | decide | (simp [slS]; done) | (simp [slS]; omega) | (simp only [byteE_len, mvE_len, strE_len, intE_len, esC_len, List.length_cons, List.length_nil, List.length_append, List.length_replicate, List.length_set, Int.toNat_natCast, and_true] at *; omega)) ?_ | refine LoopN.go ?_ | exact trivial | refine AltVC.mk ?_ ?_ | refine HeldVC.mk rfl ?_ | refine CallVC.res [] rfl h1 rfl ?_ | refine OpVC.more tt_ok ?_ | refine RestVC.ext tt_ok ?_)); all_goals (conv => whnf)
    refine LoopVC.mk (G := Nat) (fun k => ⟨[(14, .v (i64 k)), (13, .v (i64 l.length)), (12, .v (.c (.sl 1001))), (5, .v (i64 (ft k))), (1, .v (vb toads)), (0, .v (.c (.str w)))], [(1001, .sl 47 2 (mvE l))]⟩)
      (fun k => k ≤ l.length) (fun k => l.length - k) 0 (by omega) (Sub.mk [] _ ⟨rfl, by rw [hml]; rfl, rfl, by rw [hzero]; rfl, rfl, rfl, trivial⟩ rfl rfl) ?_
    intro k hk
    by_cases hlt : k < l.length
    · have hmem := List.getElem_mem hlt
      have g1 : (mvE l)[(k : Int).toNat]? = some (mvC l[k]) := by rw [Int.toNat_natCast]; exact mvE_get hlt
      have hs := hsucc k hlt
      obtain ⟨i1, i2, i3⟩ := hin _ hmem
      have hr := hrec _ (hway _ hmem) (by omega)
      have hb := hfb l[k]
      have hb2 := hbd k
      have hwm := hway _ hmem
      have hmk := liMake_spec w l[k] i1 i2 i3 (by omega)
      generalize l[k] = m at *
      generalize madeF w m = w' at *
      generalize freeF w' kd = q at *
      (repeat' ((conv => whnf); first | refine CondVC.t ?_ | refine CondVC.f ?_ | refine CondVC.dec (fun h => ?_) (fun h => ?_) | refine CondVC.ndec (fun h => ?_) (fun h => ?_) | refine CondVC.mk (fun h => ?_) (fun h => ?_) | refine ArVC.i64 (by omega) ?_ | refine SideVC.mk (by first | omega | decide | (simp [slS]; done) | (simp [slS]; omega) | (simp only [byteE_len, mvE_len, strE_len, intE_len, esC_len, List.length_cons, List.length_nil, List.length_append, List.length_replicate, List.length_set, Int.toNat_natCast, and_true] at *; omega)) ?_ | refine LoopN.go ?_ | exact trivial | refine AltVC.mk ?_ ?_ | refine HeldVC.mk rfl ?_ | refine LoadVC.mk _ g1 ?_ | refine SideVC.mk (by rw [hml]; omega) ?_ | refine CallVC.pure hmk rfl ?_ | refine CallVC.pure hr rfl ?_ | refine CallVC.pure (l1Most_spec _ _) rfl ?_ | refine OpVC.more tt_ok ?_ | refine RestVC.ext tt_ok ?_)); all_goals (conv => whnf)
      all_goals first
        | (exfalso; omega)
        | exact ⟨k + 1, by omega, by omega, Sub.mk [] _ ⟨rfl, rfl, rfl, by rw [hs]; rfl, rfl, rfl, trivial⟩ rfl rfl⟩
    · (repeat' ((conv => whnf); first | refine CondVC.t ?_ | refine CondVC.f ?_ | refine CondVC.dec (fun h => ?_) (fun h => ?_) | refine CondVC.ndec (fun h => ?_) (fun h => ?_) | refine CondVC.mk (fun h => ?_) (fun h => ?_) | refine ArVC.i64 (by omega) ?_ | refine SideVC.mk (by first | omega | decide | (simp [slS]; done) | (simp [slS]; omega) | (simp only [byteE_len, mvE_len, strE_len, intE_len, esC_len, List.length_cons, List.length_nil, List.length_append, List.length_replicate, List.length_set, Int.toNat_natCast, and_true] at *; omega)) ?_ | refine LoopN.go ?_ | exact trivial | refine AltVC.mk ?_ ?_ | refine HeldVC.mk rfl ?_ | refine OpVC.more tt_ok ?_ | refine RestVC.ext tt_ok ?_)); all_goals (conv => whnf)
      all_goals first
        | (exfalso; omega)
        | exact RetVC.res (by rw [hend k (by omega)]; rfl) rfl

/-! ### The program's, with its memo -/
def okFree (kind : Tx) (es : List (C × V)) : Prop := ∀ p ∈ es, ∃ w, p = (.str w, i64 (freeF w kind))
theorem okFree_get {kind : Tx} {es : List (C × V)} {w : Tx} {v : V} (h : okFree kind es) (hg : getM es (.str w) = some v) : v = i64 (freeF w kind) := by
  obtain ⟨k, hk, he⟩ := getM_mem hg
  obtain ⟨w', e⟩ := h _ hk
  simp only [Prod.mk.injEq] at e
  obtain ⟨rfl, rfl⟩ := e
  simp only [keyEq, decide_eq_true_eq] at he
  rw [he]
theorem okFree_set {kind : Tx} {es : List (C × V)} {w : Tx} (h : okFree kind es) : okFree kind (setM es (.str w) (i64 (freeF w kind))) := fun p hp => by
  rcases mem_setM hp with hp | hp
  · exact h p hp
  · exact ⟨w, hp⟩

def freeM (kind : Tx) (es : List (C × V)) : Mem := [(5, .box 80 [.mp 7]), (7, .ext (.mp none es)), (3, .box 9 [.str kind]), (6, .box 81 [.fn 75 [5, 3, 6]])]
theorem free1_spec (kind : Tx) : ∀ (n : Nat) (w : Tx) (es : List (C × V)), wayF w < n → w.length ≤ 1000 → okFree kind es →
    Spec Tryd.prog 75 [.c (.str w), .c (.ptr 5 0), .c (.ptr 3 0), .c (.ptr 6 0)] (freeM kind es) (fun vs m => ∃ es', okFree kind es' ∧ vs = [i64 (freeF w kind)] ∧ m = freeM kind es')
  | 0, w, _, hn, _, _ => absurd hn (Nat.not_lt_zero _)
  | n + 1, w, es, hn, hw, hes => by
    have h1 := moves_spec w kind (by omega)
    have hin : ∀ m ∈ movesF w kind, _ := fun m hm => movesF_in hm
    have hway : ∀ m ∈ movesF w kind, _ := fun m hm => way_made hm
    have hend : ∀ k, (movesF w kind).length ≤ k → _ := fun k h => freeTo_end w kind h
    have hll := movesF_len w kind
    have hsucc : ∀ k (h : k < (movesF w kind).length), freeTo w kind (k + 1) = max (freeTo w kind k) (1 + freeF (madeF w (movesF w kind)[k]) kind) := fun k h => foldl_take h
    have hzero : freeTo w kind 0 = 0 := rfl
    have hbd := freeTo_bound w kind
    have hws := way_small hw
    have hrec : ∀ (m : Mv) (es : List (C × V)), wayF (madeF w m) < wayF w → okFree kind es → Spec Tryd.prog 75 [.c (.str (madeF w m)), .c (.ptr 5 0), .c (.ptr 3 0), .c (.ptr 6 0)] (freeM kind es) (fun vs m' => ∃ es', okFree kind es' ∧ vs = [i64 (freeF (madeF w m) kind)] ∧ m' = freeM kind es') :=
      fun m es hm he => free1_spec kind n (madeF w m) es (by omega) (by rw [madeF_len]; exact hw) he
    have hfb : ∀ m, _ := fun m => freeF_bound kind _ (madeF w m) (Nat.le_refl _)
    generalize freeTo w kind = ft at *
    generalize movesF w kind = l at *
    have hml := mvE_len l
    unfold freeM at *
    refine Spec.of_wpx tt_ok Tryd.func75 (by kernel_rfl) rfl ?_
    (repeat' ((conv => whnf); first | refine CondVC.t ?_ | refine CondVC.f ?_ | refine CondVC.dec (fun h => ?_) (fun h => ?_) | refine CondVC.ndec (fun h => ?_) (fun h => ?_) | refine CondVC.mk (fun h => ?_) (fun h => ?_) | refine ArVC.i64 (by omega) ?_ | refine SideVC.mk (by first | omega | decide | (simp [slS]; done) | (simp [slS]; omega) | (simp only [byteE_len, mvE_len, strE_len, intE_len, esC_len, List.length_cons, List.length_nil, List.length_append, List.length_replicate, List.length_set, Int.toNat_natCast, and_true] at *; omega)) ?_ | refine LoopN.go ?_ | exact trivial | refine AltVC.mk ?_ ?_ | refine HeldVC.mk rfl ?_ | (refine LookVC.mk (fun v hv => ?_) (fun hv => ?_); obtain rfl := okFree_get hes hv) | refine CallVC.res [] rfl h1 rfl ?_ | refine OpVC.more tt_ok ?_ | refine RestVC.ext tt_ok ?_)); all_goals (conv => whnf)
    · exact RetVC.mk rfl ⟨es, hes, rfl, rfl⟩
    refine LoopVC.mk (G := Nat × List (C × V)) (fun g => ⟨[(23, .v (i64 g.1)), (22, .v (i64 l.length)), (21, .v (.c (.sl 1001))), (8, .v (i64 (ft g.1))), (3, .v (.c (.ptr 6 0))), (2, .v (.c (.ptr 3 0))), (1, .v (.c (.ptr 5 0))), (0, .v (.c (.str w)))],
        [(1001, .sl 47 2 (mvE l)), (5, .box 80 [.mp 7]), (7, .ext (.mp none g.2)), (3, .box 9 [.str kind]), (6, .box 81 [.fn 75 [5, 3, 6]])]⟩)
      (fun g => g.1 ≤ l.length ∧ okFree kind g.2) (fun g => l.length - g.1) (0, es) ⟨by omega, hes⟩ (Sub.mk [] _ ⟨rfl, by rw [hml]; rfl, rfl, by rw [hzero]; rfl, rfl, rfl, rfl, rfl, trivial⟩ rfl rfl) ?_
    rintro ⟨k, es⟩ ⟨hk, hes⟩
    simp only at hk hes
    by_cases hlt : k < l.length
    · have hmem := List.getElem_mem hlt
      have g1 : (mvE l)[(k : Int).toNat]? = some (mvC l[k]) := by rw [Int.toNat_natCast]; exact mvE_get hlt
      have hs := hsucc k hlt
      obtain ⟨i1, i2, i3⟩ := hin _ hmem
      have hr := hrec _ es (hway _ hmem) hes
      have hb := hfb l[k]
      have hb2 := hbd k
      have hwm := hway _ hmem
      have hmk := made_spec w l[k] i1 i2 (by omega)
      generalize l[k] = m at *
      generalize madeF w m = w' at *
      generalize freeF w' kind = q at *
      (repeat' ((conv => whnf); first | refine CondVC.t ?_ | refine CondVC.f ?_ | refine CondVC.dec (fun h => ?_) (fun h => ?_) | refine CondVC.ndec (fun h => ?_) (fun h => ?_) | refine CondVC.mk (fun h => ?_) (fun h => ?_) | refine ArVC.i64 (by omega) ?_ | refine SideVC.mk (by first | omega | decide | (simp [slS]; done) | (simp [slS]; omega) | (simp only [byteE_len, mvE_len, strE_len, intE_len, esC_len, List.length_cons, List.length_nil, List.length_append, List.length_replicate, List.length_set, Int.toNat_natCast, and_true] at *; omega)) ?_ | refine LoopN.go ?_ | exact trivial | refine AltVC.mk ?_ ?_ | refine HeldVC.mk rfl ?_ | refine LoadVC.mk _ g1 ?_ | refine SideVC.mk (by rw [hml]; omega) ?_ | refine DrawVC.tree (id := 8) tt_ok [1001, 10, 5, 3, 6] tr75_8 (by kernel_rfl) (by kernel_rfl) rfl ?_ | refine CallVC.pure hmk rfl ?_ | (refine CallVC.mk [5, 7, 3, 6] rfl hr ?_; rintro _ _ ⟨es', hes', rfl, rfl⟩; refine ⟨rfl, ?_⟩) | refine OpVC.more tt_ok ?_ | refine RestVC.ext tt_ok ?_)); all_goals (conv => whnf)
      all_goals first
        | (exfalso; omega)
        | exact ⟨(k + 1, es'), ⟨by omega, hes'⟩, by simp only; omega, Sub.mk [] _ ⟨rfl, rfl, rfl, by rw [hs]; exact congrArg (fun z => some (E.v (i64 z))) (maxEq _ _), rfl, rfl, rfl, rfl, trivial⟩ rfl rfl⟩
    · (repeat' ((conv => whnf); first | refine CondVC.t ?_ | refine CondVC.f ?_ | refine CondVC.dec (fun h => ?_) (fun h => ?_) | refine CondVC.ndec (fun h => ?_) (fun h => ?_) | refine CondVC.mk (fun h => ?_) (fun h => ?_) | refine ArVC.i64 (by omega) ?_ | refine SideVC.mk (by first | omega | decide | (simp [slS]; done) | (simp [slS]; omega) | (simp only [byteE_len, mvE_len, strE_len, intE_len, esC_len, List.length_cons, List.length_nil, List.length_append, List.length_replicate, List.length_set, Int.toNat_natCast, and_true] at *; omega)) ?_ | refine LoopN.go ?_ | exact trivial | refine AltVC.mk ?_ ?_ | refine HeldVC.mk rfl ?_ | refine OpVC.more tt_ok ?_ | refine RestVC.ext tt_ok ?_)); all_goals (conv => whnf)
      all_goals first
        | (exfalso; omega)
        | (rw [hend k (by omega)]; exact RetVC.mk rfl ⟨_, okFree_set hes, rfl, rfl⟩)

theorem free_spec (w kind : Tx) (hw : w.length ≤ 1000) : Spec Tryd.prog 51 [.c (.str w), .c (.str kind)] [] (isRes [i64 (freeF w kind)] []) := by
  have h1 := free1_spec kind (wayF w + 1) w [] (by omega) hw (fun p hp => by cases hp)
  unfold freeM at h1
  generalize freeF w kind = q at *
  refine Spec.of_wpx tt_ok Tryd.func51 (by kernel_rfl) rfl ?_
  (repeat' ((conv => whnf); first | refine CondVC.t ?_ | refine CondVC.f ?_ | refine CondVC.dec (fun h => ?_) (fun h => ?_) | refine CondVC.ndec (fun h => ?_) (fun h => ?_) | refine CondVC.mk (fun h => ?_) (fun h => ?_) | refine ArVC.i64 (by omega) ?_ | refine SideVC.mk (by first | omega | decide | (simp [slS]; done) | (simp [slS]; omega) | (simp only [byteE_len, mvE_len, strE_len, intE_len, esC_len, List.length_cons, List.length_nil, List.length_append, List.length_replicate, List.length_set, Int.toNat_natCast, and_true] at *; omega)) ?_ | refine LoopN.go ?_ | exact trivial | refine AltVC.mk ?_ ?_ | refine HeldVC.mk rfl ?_ | (refine CallVC.mk [5, 7, 3, 6] rfl h1 ?_; rintro _ _ ⟨es', hes', rfl, rfl⟩; refine ⟨rfl, ?_⟩) | refine OpVC.more tt_ok ?_ | refine RestVC.ext tt_ok ?_)); all_goals (conv => whnf)
  all_goals exact RetVC.res rfl rfl

theorem isPlayed_spec (w : Tx) (hw : w.length ≤ 1048576) : Spec Tryd.prog 50 [.c (.str w)] [] (isRes [vb (lineOf w 10)] []) := by
  refine Spec.of_wpx tt_ok Tryd.func50 (by kernel_rfl) rfl ?_
  (repeat' ((conv => whnf); first | refine CondVC.t ?_ | refine CondVC.f ?_ | refine CondVC.dec (fun h => ?_) (fun h => ?_) | refine CondVC.ndec (fun h => ?_) (fun h => ?_) | refine CondVC.mk (fun h => ?_) (fun h => ?_) | refine ArVC.i64 (by omega) ?_ | refine SideVC.mk (by first | omega | decide | (simp [slS]; done) | (simp [slS]; omega) | (simp only [byteE_len, mvE_len, strE_len, intE_len, esC_len, List.length_cons, List.length_nil, List.length_append, List.length_replicate, List.length_set, Int.toNat_natCast, and_true] at *; omega)) ?_ | refine LoopN.go ?_ | exact trivial | refine AltVC.mk ?_ ?_ | refine HeldVC.mk rfl ?_ | refine CallVC.pure (isLineOf_spec w 10 (by omega)) rfl ?_ | refine OpVC.more tt_ok ?_ | refine RestVC.ext tt_ok ?_)); all_goals (conv => whnf)
  all_goals exact RetVC.res rfl rfl
theorem gaFew_spec (w : Tx) (hw : w.length ≤ 1048576) : Spec Tryd.prog 48 [.c (.str w)] [] (isRes [vb (lineOf w 10)] []) := by
  refine Spec.of_wpx tt_ok Tryd.func48 (by kernel_rfl) rfl ?_
  have h1 := liGood_spec w (by omega)
  have hr := lineFew w
  cases hl : lineOf w 12 with
  | true =>
    rw [hl] at h1 hr
    (repeat' ((conv => whnf); first | refine CondVC.t ?_ | refine CondVC.f ?_ | refine CondVC.dec (fun h => ?_) (fun h => ?_) | refine CondVC.ndec (fun h => ?_) (fun h => ?_) | refine CondVC.mk (fun h => ?_) (fun h => ?_) | refine ArVC.i64 (by omega) ?_ | refine SideVC.mk (by first | omega | decide | (simp [slS]; done) | (simp [slS]; omega) | (simp only [byteE_len, mvE_len, strE_len, intE_len, esC_len, List.length_cons, List.length_nil, List.length_append, List.length_replicate, List.length_set, Int.toNat_natCast, and_true] at *; omega)) ?_ | refine LoopN.go ?_ | exact trivial | refine AltVC.mk ?_ ?_ | refine HeldVC.mk rfl ?_ | refine CallVC.pure h1 rfl ?_ | refine OpVC.more tt_ok ?_ | refine RestVC.ext tt_ok ?_)); all_goals (conv => whnf)
    all_goals exact RetVC.res (by rw [← hr]; simp [vb]) rfl
  | false =>
    rw [hl] at h1 hr
    (repeat' ((conv => whnf); first | refine CondVC.t ?_ | refine CondVC.f ?_ | refine CondVC.dec (fun h => ?_) (fun h => ?_) | refine CondVC.ndec (fun h => ?_) (fun h => ?_) | refine CondVC.mk (fun h => ?_) (fun h => ?_) | refine ArVC.i64 (by omega) ?_ | refine SideVC.mk (by first | omega | decide | (simp [slS]; done) | (simp [slS]; omega) | (simp only [byteE_len, mvE_len, strE_len, intE_len, esC_len, List.length_cons, List.length_nil, List.length_append, List.length_replicate, List.length_set, Int.toNat_natCast, and_true] at *; omega)) ?_ | refine LoopN.go ?_ | exact trivial | refine AltVC.mk ?_ ?_ | refine HeldVC.mk rfl ?_ | refine CallVC.pure h1 rfl ?_ | refine OpVC.more tt_ok ?_ | refine RestVC.ext tt_ok ?_)); all_goals (conv => whnf)
    all_goals exact RetVC.res (by rw [← hr]; simp [vb]) rfl

def freeAskF (w kind : Tx) : Int := if lineOf w 10 then freeF w kind else 0
theorem implFreeMoves_spec (w : Tx) (hw : w.length ≤ 1048576) : Spec Tryd.prog 17 [.c (.str w)] [] (isRes [i64 (freeAskF w [84]), i64 (freeAskF w [70]), vb (lineOf w 10)] []) := by
  refine Spec.of_wpx tt_ok Tryd.func17 (by kernel_rfl) rfl ?_
  have h1 := isPlayed_spec w hw
  unfold freeAskF
  cases hl : lineOf w 10 with
  | true =>
    rw [hl] at h1
    have h2 := free_spec w [84] (by have := line_len hl; omega)
    have h3 := free_spec w [70] (by have := line_len hl; omega)
    generalize freeF w [84] = a at *
    generalize freeF w [70] = b at *
    (repeat' ((conv => whnf); first | refine CondVC.t ?_ | refine CondVC.f ?_ | refine CondVC.dec (fun h => ?_) (fun h => ?_) | refine CondVC.ndec (fun h => ?_) (fun h => ?_) | refine CondVC.mk (fun h => ?_) (fun h => ?_) | refine ArVC.i64 (by omega) ?_ | refine SideVC.mk (by first | omega | decide | (simp [slS]; done) | (simp [slS]; omega) | (simp only [byteE_len, mvE_len, strE_len, intE_len, esC_len, List.length_cons, List.length_nil, List.length_append, List.length_replicate, List.length_set, Int.toNat_natCast, and_true] at *; omega)) ?_ | refine LoopN.go ?_ | exact trivial | refine AltVC.mk ?_ ?_ | refine HeldVC.mk rfl ?_ | refine CallVC.pure h1 rfl ?_ | refine CallVC.pure h2 rfl ?_ | refine CallVC.pure h3 rfl ?_ | refine OpVC.more tt_ok ?_ | refine RestVC.ext tt_ok ?_)); all_goals (conv => whnf)
    all_goals exact RetVC.res rfl rfl
  | false =>
    rw [hl] at h1
    (repeat' ((conv => whnf); first | refine CondVC.t ?_ | refine CondVC.f ?_ | refine CondVC.dec (fun h => ?_) (fun h => ?_) | refine CondVC.ndec (fun h => ?_) (fun h => ?_) | refine CondVC.mk (fun h => ?_) (fun h => ?_) | refine ArVC.i64 (by omega) ?_ | refine SideVC.mk (by first | omega | decide | (simp [slS]; done) | (simp [slS]; omega) | (simp only [byteE_len, mvE_len, strE_len, intE_len, esC_len, List.length_cons, List.length_nil, List.length_append, List.length_replicate, List.length_set, Int.toNat_natCast, and_true] at *; omega)) ?_ | refine LoopN.go ?_ | exact trivial | refine AltVC.mk ?_ ?_ | refine HeldVC.mk rfl ?_ | refine CallVC.pure h1 rfl ?_ | refine OpVC.more tt_ok ?_ | refine RestVC.ext tt_ok ?_)); all_goals (conv => whnf)
    all_goals exact RetVC.res rfl rfl
theorem specFreeMoves_spec (w : Tx) (hw : w.length ≤ 1048576) : Spec Tryd.prog 16 [.c (.str w)] [] (isRes [i64 (freeAskF w [84]), i64 (freeAskF w [70]), vb (lineOf w 10)] []) := by
  refine Spec.of_wpx tt_ok Tryd.func16 (by kernel_rfl) rfl ?_
  have h1 := gaFew_spec w hw
  unfold freeAskF
  cases hl : lineOf w 10 with
  | true =>
    rw [hl] at h1
    have h2 := gaFree_spec true (wayF w + 1) w (by omega) (line_ok hl) (by have := line_len hl; omega)
    have h3 := gaFree_spec false (wayF w + 1) w (by omega) (line_ok hl) (by have := line_len hl; omega)
    have e2 : kindsF true (!true) = [84] := rfl
    have e3 : kindsF false (!false) = [70] := rfl
    rw [e2] at h2
    rw [e3] at h3
    generalize freeF w [84] = a at *
    generalize freeF w [70] = b at *
    (repeat' ((conv => whnf); first | refine CondVC.t ?_ | refine CondVC.f ?_ | refine CondVC.dec (fun h => ?_) (fun h => ?_) | refine CondVC.ndec (fun h => ?_) (fun h => ?_) | refine CondVC.mk (fun h => ?_) (fun h => ?_) | refine ArVC.i64 (by omega) ?_ | refine SideVC.mk (by first | omega | decide | (simp [slS]; done) | (simp [slS]; omega) | (simp only [byteE_len, mvE_len, strE_len, intE_len, esC_len, List.length_cons, List.length_nil, List.length_append, List.length_replicate, List.length_set, Int.toNat_natCast, and_true] at *; omega)) ?_ | refine LoopN.go ?_ | exact trivial | refine AltVC.mk ?_ ?_ | refine HeldVC.mk rfl ?_ | refine CallVC.pure h1 rfl ?_ | refine CallVC.pure h2 rfl ?_ | refine CallVC.pure h3 rfl ?_ | refine OpVC.more tt_ok ?_ | refine RestVC.ext tt_ok ?_)); all_goals (conv => whnf)
    all_goals exact RetVC.res rfl rfl
  | false =>
    rw [hl] at h1
    (repeat' ((conv => whnf); first | refine CondVC.t ?_ | refine CondVC.f ?_ | refine CondVC.dec (fun h => ?_) (fun h => ?_) | refine CondVC.ndec (fun h => ?_) (fun h => ?_) | refine CondVC.mk (fun h => ?_) (fun h => ?_) | refine ArVC.i64 (by omega) ?_ | refine SideVC.mk (by first | omega | decide | (simp [slS]; done) | (simp [slS]; omega) | (simp only [byteE_len, mvE_len, strE_len, intE_len, esC_len, List.length_cons, List.length_nil, List.length_append, List.length_replicate, List.length_set, Int.toNat_natCast, and_true] at *; omega)) ?_ | refine LoopN.go ?_ | exact trivial | refine AltVC.mk ?_ ?_ | refine HeldVC.mk rfl ?_ | refine CallVC.pure h1 rfl ?_ | refine OpVC.more tt_ok ?_ | refine RestVC.ext tt_ok ?_)); all_goals (conv => whnf)
    all_goals exact RetVC.res rfl rfl
theorem lawFreeMoves_spec (w : Tx) (hw : w.length ≤ 9223372036854775807) : Spec Tryd.prog 4 [.c (.str w)] [] (isRes [vb true] []) := by
  refine Spec.of_wpx tt_ok Tryd.func4 (by kernel_rfl) rfl ?_
  (repeat' ((conv => whnf); first | refine CondVC.t ?_ | refine CondVC.f ?_ | refine CondVC.dec (fun h => ?_) (fun h => ?_) | refine CondVC.ndec (fun h => ?_) (fun h => ?_) | refine CondVC.mk (fun h => ?_) (fun h => ?_) | refine ArVC.i64 (by omega) ?_ | refine SideVC.mk (by first | omega | decide | (simp [slS]; done) | (simp [slS]; omega) | (simp only [byteE_len, mvE_len, strE_len, intE_len, esC_len, List.length_cons, List.length_nil, List.length_append, List.length_replicate, List.length_set, Int.toNat_natCast, and_true] at *; omega)) ?_ | refine LoopN.go ?_ | exact trivial | refine AltVC.mk ?_ ?_ | refine HeldVC.mk rfl ?_ | refine CallVC.pure (specFreeMoves_spec w (by omega)) rfl ?_ | refine CallVC.pure (implFreeMoves_spec w (by omega)) rfl ?_ | refine OpVC.more tt_ok ?_ | refine RestVC.ext tt_ok ?_)); all_goals (conv => whnf)
  all_goals first | exact RetVC.res rfl rfl | (exfalso; simp_all; done)
end Go.Proofs.YtjpabjmcooiflaaDoor.X
