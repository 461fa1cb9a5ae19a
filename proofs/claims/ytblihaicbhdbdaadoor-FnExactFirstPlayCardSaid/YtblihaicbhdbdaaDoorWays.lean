/- The program's plays to a line, with their memo: moves behind which the goal is reached still. No condition beyond each statement's. -/
import Derived.Test.YtblihaicbhdbdaaDoorEdge
import Derived.Test.YtblihaicbhdbdaaDoorCallE
import Derived.Test.YtblihaicbhdbdaaDoorCut
namespace Go.Proofs.YtblihaicbhdbdaaDoor.X
open Go.Proofs
set_option maxRecDepth 100000
set_option linter.unusedVariables false
set_option linter.unusedSimpArgs false

def okWays (g : Tx) (es : List (C × V)) : Prop := (∀ p ∈ es, ∃ w, p = (.str w, i64 (wp g w))) ∧ (getM es (.str g)).isSome = true
theorem okWays_get {g : Tx} {es : List (C × V)} {w : Tx} {v : V} (h : okWays g es) (hg : getM es (.str w) = some v) : v = i64 (wp g w) := by
  obtain ⟨k, hk, he⟩ := getM_mem hg
  obtain ⟨w', e⟩ := h.1 _ hk
  simp only [Prod.mk.injEq] at e
  obtain ⟨rfl, rfl⟩ := e
  simp only [keyEq, decide_eq_true_eq] at he
  rw [he]
theorem okWays_none {g : Tx} {es : List (C × V)} {w : Tx} (h : okWays g es) (hg : getM es (.str w) = none) : w ≠ g := fun e => by
  have := h.2
  rw [← e, hg] at this
  cases this
theorem okWays_set {g : Tx} {es : List (C × V)} {w : Tx} (h : okWays g es) : okWays g (setM es (.str w) (i64 (wp g w))) := by
  refine ⟨fun p hp => ?_, ?_⟩
  · rcases mem_setM hp with hp | hp
    · exact h.1 p hp
    · exact ⟨w, hp⟩
  · cases hk : keyEq (.str g) (.str w) with
    | true =>
      simp only [keyEq, decide_eq_true_eq] at hk
      subst hk
      rw [getM_set_self (kd := none) rfl]; rfl
    | false =>
      rw [getM_set_ne (kd := none) (fun p hp => by obtain ⟨w', e⟩ := h.1 p hp; rw [e]; rfl) rfl rfl hk]
      exact h.2
theorem okWays_one (g : Tx) : okWays g (setM [] (.str g) (i64 1)) := by
  refine ⟨fun p hp => ?_, ?_⟩
  · rcases mem_setM hp with hp | hp
    · cases hp
    · exact ⟨g, by rw [hp, wp_self]⟩
  · rw [getM_set_self (kd := none) rfl]; rfl

theorem to_spec (g : Tx) : Spec Tryd.prog 41 [.c (.str g)] [] (isRes [.agg [.str g, .mp 1000]] [(1000, .ext (.mp none (setM [] (.str g) (i64 1))))]) := by
  refine Spec.of_wpx tt_ok Tryd.func41 (by kernel_rfl) rfl ?_
  (repeat' ((conv => whnf); first | refine CondVC.t ?_ | refine CondVC.f ?_ | refine CondVC.dec (fun h => ?_) (fun h => ?_) | refine CondVC.ndec (fun h => ?_) (fun h => ?_) | refine CondVC.mk (fun h => ?_) (fun h => ?_) | refine ArVC.i64 (by first | omega | (simp only; omega)) ?_ | refine SideVC.mk (by first | omega | decide | (simp only; omega) | (simp [slS]; done) | (simp [slS]; omega) | (simp only [byteE_len, mvE_len, strE_len, intE_len, esC_len, List.length_cons, List.length_nil, List.length_append, List.length_replicate, List.length_set, Int.toNat_natCast, and_true] at *; omega)) ?_ | refine LoopN.go ?_ | exact trivial | refine AltVC.mk ?_ ?_ | refine HeldVC.mk rfl ?_ | refine OpVC.more tt_ok ?_ | refine RestVC.ext tt_ok ?_)); all_goals (conv => whnf)
  all_goals exact RetVC.ren [(1000, 4)] [.agg [.str g, .mp 1000]] [(1000, .ext (.mp none (setM [] (.str g) (i64 1))))] rfl rfl rfl ⟨rfl, rfl⟩

def WaysS (g w : Tx) : Prop := ∀ es, okWays g es → Spec Tryd.prog 52 [.agg [.str g, .mp 1000], .c (.str w)] [(1000, .ext (.mp none es))]
  (exRes (okWays g) (fun _ => [i64 (wp g w)]) (fun es' => [(1000, .ext (.mp none es'))]))
theorem ways_spec (g : Tx) : ∀ (n : Nat) (w : Tx), wayF w < n → w.length ≤ 1000 → WaysS g w
  | 0, w, hn, _ => absurd hn (Nat.not_lt_zero _)
  | n + 1, w, hn, hw => by
    intro es hes
    have h1 := moves_spec w both (by omega)
    have hin : ∀ m ∈ movesF w both, _ := fun m hm => movesF_in hm
    have hway : ∀ m ∈ movesF w both, _ := fun m hm => way_made hm
    have hll := movesF_len w both
    have hz := wpTo_zero g w
    have hs : ∀ k (h : k < (movesF w both).length), _ := fun k h => wpTo_succ g w h
    have hend : w ≠ g → ∀ k, (movesF w both).length ≤ k → wpTo g w k = wp g w := fun hne k h => wpTo_end hne h
    have hrec : ∀ (m : Mv), wayF (madeF w m) < wayF w → WaysS g (madeF w m) := fun m hm => ways_spec g n (madeF w m) (by omega) (by rw [madeF_len]; exact hw)
    have hget : ∀ es v, okWays g es → getM es (.str w) = some v → v = i64 (wp g w) := fun es v h h' => okWays_get h h'
    have hset : ∀ es, okWays g es → okWays g (setM es (.str w) (i64 (wp g w))) := fun es h => okWays_set h
    unfold WaysS at hrec
    generalize wpTo g w = pt at *
    generalize wp g w = wf at *
    generalize hl0 : movesF w both = l at *
    have hml := mvE_len l
    refine Spec.of_wpx tt_ok Tryd.func52 (by kernel_rfl) rfl ?_
    (repeat' ((conv => whnf); first | refine CondVC.t ?_ | refine CondVC.f ?_ | refine CondVC.dec (fun h => ?_) (fun h => ?_) | refine CondVC.ndec (fun h => ?_) (fun h => ?_) | refine CondVC.mk (fun h => ?_) (fun h => ?_) | refine ArVC.i64 (by first | omega | (simp only; omega)) ?_ | refine SideVC.mk (by first | omega | decide | (simp only; omega) | (simp [slS]; done) | (simp [slS]; omega) | (simp only [byteE_len, mvE_len, strE_len, intE_len, esC_len, List.length_cons, List.length_nil, List.length_append, List.length_replicate, List.length_set, Int.toNat_natCast, and_true] at *; omega)) ?_ | refine LoopN.go ?_ | exact trivial | refine AltVC.mk ?_ ?_ | refine HeldVC.mk rfl ?_ | (refine LookVC.mk (fun v hv => ?_) (fun hv => ?_); obtain rfl := hget _ _ hes hv) | refine CallVC.res [] rfl h1 rfl ?_ | refine OpVC.more tt_ok ?_ | refine RestVC.ext tt_ok ?_)); all_goals (conv => whnf)
    · exact RetVC.mk rfl ⟨es, hes, rfl, rfl⟩
    have hne := okWays_none hes hv
    have hend := hend hne
    refine LoopVC.mk (G := Nat × List (C × V)) (fun γ => ⟨[(22, .v (i64 γ.1)), (21, .v (i64 l.length)), (20, .v (.c (.sl 1001))), (7, .v (i64 (pt γ.1))), (2, .v (.c (.ptr 2 0))), (1, .v (.c (.str w)))],
        [(1001, .sl 45 2 (mvE l)), (2, .box 52 [.str g, .mp 1000]), (1000, .ext (.mp none γ.2))]⟩)
      (fun γ => γ.1 ≤ l.length ∧ okWays g γ.2) (fun γ => l.length - γ.1) (0, es) ⟨by omega, hes⟩ (Sub.mk [] _ ⟨rfl, by rw [hml]; rfl, rfl, by rw [hz]; rfl, rfl, rfl, trivial⟩ rfl rfl) ?_
    rintro ⟨k, es⟩ ⟨hk, hes⟩
    simp only at hk hes
    by_cases hlt : k < l.length
    · have hmem := List.getElem_mem hlt
      have g1 : (mvE l)[(k : Int).toNat]? = some (mvC l[k]) := by rw [Int.toNat_natCast]; exact mvE_get hlt
      have hsk := hs k hlt
      obtain ⟨i1, i2, i3⟩ := hin _ hmem
      have hr := hrec _ (hway _ hmem) es hes
      have hmk := made_spec w l[k] i1 i2 (by omega)
      generalize l[k] = m at *
      generalize madeF w m = w' at *
      generalize wp g w' = q at *
      (repeat' ((conv => whnf); first | refine CondVC.t ?_ | refine CondVC.f ?_ | refine CondVC.dec (fun h => ?_) (fun h => ?_) | refine CondVC.ndec (fun h => ?_) (fun h => ?_) | refine CondVC.mk (fun h => ?_) (fun h => ?_) | refine ArVC.i64 (by first | omega | (simp only; omega)) ?_ | refine SideVC.mk (by first | omega | decide | (simp only; omega) | (simp [slS]; done) | (simp [slS]; omega) | (simp only [byteE_len, mvE_len, strE_len, intE_len, esC_len, List.length_cons, List.length_nil, List.length_append, List.length_replicate, List.length_set, Int.toNat_natCast, and_true] at *; omega)) ?_ | refine LoopN.go ?_ | exact trivial | refine AltVC.mk ?_ ?_ | refine HeldVC.mk rfl ?_ | refine LoadVC.mk _ g1 ?_ | refine SideVC.mk (by rw [hml]; omega) ?_ | refine DrawVC.tree (id := 8) tt_ok [1001, 9, 2] tr52_8 (by kernel_rfl) (by kernel_rfl) rfl ?_ | refine CallVC.pure hmk rfl ?_ | (refine CallVC.ex [1000] rfl hr ?_; intro es' hes'; refine ⟨rfl, ?_⟩) | refine ArVC.wrap ?_ | refine OpVC.more tt_ok ?_ | refine RestVC.ext tt_ok ?_)); all_goals (conv => whnf)
      all_goals first
        | (exfalso; omega)
        | exact ⟨(k + 1, es'), ⟨by omega, hes'⟩, by simp only; omega, Sub.mk [] _ ⟨rfl, rfl, rfl, by rw [hsk]; rfl, rfl, rfl, trivial⟩ rfl rfl⟩
    · (repeat' ((conv => whnf); first | refine CondVC.t ?_ | refine CondVC.f ?_ | refine CondVC.dec (fun h => ?_) (fun h => ?_) | refine CondVC.ndec (fun h => ?_) (fun h => ?_) | refine CondVC.mk (fun h => ?_) (fun h => ?_) | refine ArVC.i64 (by first | omega | (simp only; omega)) ?_ | refine SideVC.mk (by first | omega | decide | (simp only; omega) | (simp [slS]; done) | (simp [slS]; omega) | (simp only [byteE_len, mvE_len, strE_len, intE_len, esC_len, List.length_cons, List.length_nil, List.length_append, List.length_replicate, List.length_set, Int.toNat_natCast, and_true] at *; omega)) ?_ | refine LoopN.go ?_ | exact trivial | refine AltVC.mk ?_ ?_ | refine HeldVC.mk rfl ?_ | refine OpVC.more tt_ok ?_ | refine RestVC.ext tt_ok ?_)); all_goals (conv => whnf)
      all_goals first
        | (exfalso; omega)
        | (rw [hend k (by omega)]; exact RetVC.mk rfl ⟨_, hset _ hes, rfl, rfl⟩)
theorem ways_all (g w : Tx) (hw : w.length ≤ 1000) : WaysS g w := ways_spec g _ w (Nat.lt_succ_self _) hw

def swM (g s : Tx) (es : List (C × V)) : Mem := [(1003, .box 52 [.str g, .mp 1000]), (1004, .box 9 [.str s]), (1000, .ext (.mp none es))]
/-- What a function over moves that keeps the memo does. -/
def MemoW (f : FuncId) (g s : Tx) (m : Mv) (q : Bool) : Prop := ∀ es, okWays g es → Spec Tryd.prog f [.agg (mvC m), .c (.ptr 1003 0), .c (.ptr 1004 0)] (swM g s es) (exRes (okWays g) (fun _ => [vb q]) (fun es' => swM g s es'))

/-! ### The first of a list that meets something, by a function that keeps a memo -/
def firstQ (l : List Mv) (p : Mv → Bool) : Int := match l.findIdx? p with
  | some i => (i : Int)
  | none => -1
theorem firstQ_at {l : List Mv} {p : Mv → Bool} {k : Nat} (h : k < l.length) (h1 : p l[k] = true) (h2 : ∀ j (hj : j < l.length), j < k → p l[j] = false) : firstQ l p = k := by
  unfold firstQ
  have : l.findIdx? p = some k := by
    rw [List.findIdx?_eq_some_iff_getElem]
    exact ⟨h, h1, fun j hj => by simp [h2 j (by omega) hj]⟩
  rw [this]
theorem firstQ_none {l : List Mv} {p : Mv → Bool} (h2 : ∀ j (hj : j < l.length), p l[j] = false) : firstQ l p = -1 := by
  unfold firstQ
  have : l.findIdx? p = none := by
    rw [List.findIdx?_eq_none_iff]
    intro x hx
    obtain ⟨j, hj, rfl⟩ := List.getElem_of_mem hx
    exact h2 j hj
  rw [this]
theorem firstQ_any (l : List Mv) (p : Mv → Bool) : decide (firstQ l p ≥ 0) = l.any p := by
  unfold firstQ
  cases h : l.findIdx? p with
  | none =>
    rw [List.findIdx?_eq_none_iff] at h
    have : l.any p = false := by rw [List.any_eq_false]; intro x hx; rw [h x hx]; simp
    rw [this]; rfl
  | some i =>
    rw [List.findIdx?_eq_some_iff_getElem] at h
    obtain ⟨h1, h2, _⟩ := h
    have : l.any p = true := List.any_eq_true.2 ⟨_, List.getElem_mem h1, h2⟩
    rw [this]; simp
theorem firstQ_bound (l : List Mv) (p : Mv → Bool) : -1 ≤ firstQ l p ∧ firstQ l p < l.length := by
  unfold firstQ
  cases h : l.findIdx? p with
  | none => simp; omega
  | some i =>
    rw [List.findIdx?_eq_some_iff_getElem] at h
    obtain ⟨h1, _⟩ := h
    simp only; omega

theorem indexW_spec (f : FuncId) (g s : Tx) (l : List Mv) (p : Mv → Bool) (hl : l.length ≤ 1000000) (H : ∀ m ∈ l, MemoW f g s m (p m)) (es : List (C × V)) (hes : (okWays g) es) :
    Spec Tryd.prog 77 [.c (.sl 1001), .c (.fn f [1003, 1004])] ((1001, .sl 45 2 (mvE l)) :: swM g s es)
      (exRes (okWays g) (fun _ => [i64 (firstQ l p)]) (fun es' => (1001, .sl 45 2 (mvE l)) :: swM g s es')) := by
  have hml := mvE_len l
  unfold MemoW at H
  unfold swM at *
  refine Spec.of_wpx tt_ok Tryd.func77 (by kernel_rfl) rfl ?_
  (repeat' ((conv => whnf); first | refine CondVC.t ?_ | refine CondVC.f ?_ | refine CondVC.dec (fun h => ?_) (fun h => ?_) | refine CondVC.ndec (fun h => ?_) (fun h => ?_) | refine CondVC.mk (fun h => ?_) (fun h => ?_) | refine ArVC.i64 (by first | omega | (simp only; omega)) ?_ | refine SideVC.mk (by first | omega | decide | (simp only; omega) | (simp [slS]; done) | (simp [slS]; omega) | (simp only [byteE_len, mvE_len, strE_len, intE_len, esC_len, List.length_cons, List.length_nil, List.length_append, List.length_replicate, List.length_set, Int.toNat_natCast, and_true] at *; omega)) ?_ | refine LoopN.go ?_ | exact trivial | refine AltVC.mk ?_ ?_ | refine HeldVC.mk rfl ?_ | refine OpVC.more tt_ok ?_ | refine RestVC.ext tt_ok ?_)); all_goals (conv => whnf)
  refine LoopVC.mk (G := Nat × List (C × V)) (fun γ => ⟨[(8, .v (i64 γ.1)), (7, .v (i64 l.length)), (1, .v (.c (.fn f [1003, 1004]))), (0, .v (.c (.sl 1001)))],
      [(1001, .sl 45 2 (mvE l)), (1003, .box 52 [.str g, .mp 1000]), (1004, .box 9 [.str s]), (1000, .ext (.mp none γ.2))]⟩)
    (fun γ => γ.1 ≤ l.length ∧ (okWays g) γ.2 ∧ ∀ j (hj : j < l.length), j < γ.1 → p l[j] = false) (fun γ => l.length - γ.1) (0, es) ⟨by omega, hes, fun j hj h => by simp at h⟩ (Sub.mk [] _ ⟨rfl, by rw [hml]; rfl, rfl, rfl, trivial⟩ rfl rfl) ?_
  rintro ⟨k, es⟩ ⟨hk, hes, hp⟩
  simp only at hk hes hp
  by_cases hlt : k < l.length
  · have hmem := List.getElem_mem hlt
    have g1 : (mvE l)[(k : Int).toNat]? = some (mvC l[k]) := by rw [Int.toNat_natCast]; exact mvE_get hlt
    have hr := H _ hmem es hes
    cases hq : p l[k]
    all_goals
      rw [hq] at hr
      (repeat' ((conv => whnf); first | refine CondVC.t ?_ | refine CondVC.f ?_ | refine CondVC.dec (fun h => ?_) (fun h => ?_) | refine CondVC.ndec (fun h => ?_) (fun h => ?_) | refine CondVC.mk (fun h => ?_) (fun h => ?_) | refine ArVC.i64 (by first | omega | (simp only; omega)) ?_ | refine SideVC.mk (by first | omega | decide | (simp only; omega) | (simp [slS]; done) | (simp [slS]; omega) | (simp only [byteE_len, mvE_len, strE_len, intE_len, esC_len, List.length_cons, List.length_nil, List.length_append, List.length_replicate, List.length_set, Int.toNat_natCast, and_true] at *; omega)) ?_ | refine LoopN.go ?_ | exact trivial | refine AltVC.mk ?_ ?_ | refine HeldVC.mk rfl ?_ | refine LoadVC.mk _ g1 ?_ | refine SideVC.mk (by rw [hml]; omega) ?_ | (refine CallVC.ex [1003, 1004, 1000] rfl hr ?_; intro es' hes'; refine ⟨rfl, ?_⟩) | refine OpVC.more tt_ok ?_ | refine RestVC.ext tt_ok ?_)); all_goals (conv => whnf)
      all_goals first
        | (exfalso; omega)
        | exact ⟨(k + 1, es'), ⟨by omega, hes', fun j hj h => by
            by_cases e : j = k
            · subst e; exact hq
            · exact hp j hj (by omega)⟩, by simp only; omega, Sub.mk [] _ ⟨rfl, rfl, rfl, rfl, trivial⟩ rfl rfl⟩
        | exact RetVC.mk rfl ⟨es', hes', by rw [firstQ_at hlt hq hp]; rfl, rfl⟩
  · (repeat' ((conv => whnf); first | refine CondVC.t ?_ | refine CondVC.f ?_ | refine CondVC.dec (fun h => ?_) (fun h => ?_) | refine CondVC.ndec (fun h => ?_) (fun h => ?_) | refine CondVC.mk (fun h => ?_) (fun h => ?_) | refine ArVC.i64 (by first | omega | (simp only; omega)) ?_ | refine SideVC.mk (by first | omega | decide | (simp only; omega) | (simp [slS]; done) | (simp [slS]; omega) | (simp only [byteE_len, mvE_len, strE_len, intE_len, esC_len, List.length_cons, List.length_nil, List.length_append, List.length_replicate, List.length_set, Int.toNat_natCast, and_true] at *; omega)) ?_ | refine LoopN.go ?_ | exact trivial | refine AltVC.mk ?_ ?_ | refine HeldVC.mk rfl ?_ | refine OpVC.more tt_ok ?_ | refine RestVC.ext tt_ok ?_)); all_goals (conv => whnf)
    all_goals first
      | (exfalso; omega)
      | exact RetVC.mk rfl ⟨es, hes, by rw [firstQ_none fun j hj => hp j hj (by omega)]; rfl, rfl⟩

def keepQ (l : List Mv) (p : Mv → Bool) (j : Nat) : List Mv := (l.take j).filter fun m => !p m
theorem keepQ_succ {l : List Mv} {p : Mv → Bool} {j : Nat} (h : j < l.length) : keepQ l p (j + 1) = keepQ l p j ++ if p l[j] then [] else [l[j]] := by
  unfold keepQ
  rw [List.take_succ_eq_append_getElem h, List.filter_append]
  congr 1
  cases hp : p l[j] <;> simp [hp]
theorem keepQ_len (l : List Mv) (p : Mv → Bool) (j : Nat) : (keepQ l p j).length ≤ j := by
  unfold keepQ
  exact Nat.le_trans (List.length_filter_le _ _) (by simp; omega)
theorem firstQ_neg {l : List Mv} {p : Mv → Bool} (h : firstQ l p = -1) : l.filter (fun m => !p m) = l := by
  rw [List.filter_eq_self]
  intro m hm
  have h1 := firstQ_any l p
  rw [h] at h1
  have h2 : l.any p = false := by rw [← h1]; rfl
  rw [List.any_eq_false] at h2
  have := h2 m hm
  simpa using this
theorem firstQ_pos {l : List Mv} {p : Mv → Bool} {i : Nat} (h : firstQ l p = i) : i < l.length ∧ keepQ l p (i + 1) = l.take i := by
  have hb := firstQ_bound l p
  have hi : i < l.length := by omega
  unfold firstQ at h
  cases hf : l.findIdx? p with
  | none => rw [hf] at h; simp only at h; omega
  | some k =>
    rw [hf] at h
    simp only at h
    have : k = i := by omega
    subst this
    rw [List.findIdx?_eq_some_iff_getElem] at hf
    obtain ⟨h1, h2, h3⟩ := hf
    refine ⟨hi, ?_⟩
    rw [keepQ_succ hi, h2]
    simp only [if_true, List.append_nil]
    unfold keepQ
    rw [List.filter_eq_self]
    intro m hm
    obtain ⟨j, hj, rfl⟩ := List.getElem_of_mem hm
    rw [List.length_take] at hj
    have := h3 j (by omega)
    rw [List.getElem_take]
    simpa using this

theorem RetVC.cutQ {D0 : List Nat} {vals : List V} {mem rest : Mem} {post : List V → Mem → Prop} {T : TypeId} {es es' : List (List C)} (z r sz n : Nat) (vs : List V) (hv : vals = vs.map (V.uncut z r sz n))
    (hm : pickL mem [r] = some ([(r, .sl T sz es)], rest)) (hn : n ≤ es.length) (hfr : freshN D0 [(0, .tup vals)] rest z = true) (he : es.take n = es') (h : RetVC D0 vs ((z, .sl T sz es') :: rest) post) : RetVC D0 vals mem post :=
  RetVC.cut z r sz n vs hv hm hn hfr (he ▸ h)

theorem deleteW_spec (f : FuncId) (g s : Tx) (l : List Mv) (p : Mv → Bool) (hl : l.length ≤ 1000000) (H : ∀ m ∈ l, MemoW f g s m (p m)) (es : List (C × V)) (hes : (okWays g) es) :
    Spec Tryd.prog 61 [.c (.sl 1001), .c (.fn f [1003, 1004])] ((1001, .sl 45 2 (mvE l)) :: swM g s es)
      (exRes (okWays g) (fun _ => [.c (.sl 1011)]) (fun es' => (1011, .sl 45 2 (mvE (l.filter fun m => !p m))) :: swM g s es')) := by
  have h1 := indexW_spec f g s l p hl H es hes
  have hbd := firstQ_bound l p
  have hneg := @firstQ_neg l p
  have hpos : ∀ i : Nat, firstQ l p = i → _ := fun i h => firstQ_pos h
  have hfull : keepQ l p l.length = l.filter fun m => !p m := by unfold keepQ; rw [List.take_length]
  unfold MemoW at H
  unfold swM at *
  generalize firstQ l p = q at *
  refine Spec.of_wpx tt_ok Tryd.func61 (by kernel_rfl) rfl ?_
  by_cases hq : q = -1
  · have e := hneg hq
    subst hq
    rw [e]
    (repeat' ((conv => whnf); first | refine CondVC.t ?_ | refine CondVC.f ?_ | refine CondVC.dec (fun h => ?_) (fun h => ?_) | refine CondVC.ndec (fun h => ?_) (fun h => ?_) | refine CondVC.mk (fun h => ?_) (fun h => ?_) | refine ArVC.i64 (by first | omega | (simp only; omega)) ?_ | refine SideVC.mk (by first | omega | decide | (simp only; omega) | (simp [slS]; done) | (simp [slS]; omega) | (simp only [byteE_len, mvE_len, strE_len, intE_len, esC_len, List.length_cons, List.length_nil, List.length_append, List.length_replicate, List.length_set, Int.toNat_natCast, and_true] at *; omega)) ?_ | refine LoopN.go ?_ | exact trivial | refine AltVC.mk ?_ ?_ | refine HeldVC.mk rfl ?_ | (refine CallVC.ex [1001, 1003, 1004, 1000] rfl h1 ?_; intro es1 hes1; refine ⟨rfl, ?_⟩) | refine OpVC.more tt_ok ?_ | refine RestVC.ext tt_ok ?_)); all_goals (conv => whnf)
    all_goals first
      | exact RetVC.ren [(1011, 1001)] [.c (.sl 1011)] [(1011, .sl 45 2 (mvE l)), (1003, .box 52 [.str g, .mp 1000]), (1004, .box 9 [.str s]), (1000, .ext (.mp none es1))] rfl rfl rfl ⟨es1, hes1, rfl, rfl⟩
      | (exfalso; omega)
  · obtain ⟨i, rfl⟩ := Int.eq_ofNat_of_zero_le (show 0 ≤ q by omega)
    obtain ⟨hi, hk0⟩ := hpos i rfl
    (repeat' ((conv => whnf); first | refine CondVC.t ?_ | refine CondVC.f ?_ | refine CondVC.dec (fun h => ?_) (fun h => ?_) | refine CondVC.ndec (fun h => ?_) (fun h => ?_) | refine CondVC.mk (fun h => ?_) (fun h => ?_) | refine ArVC.i64 (by first | omega | (simp only; omega)) ?_ | refine SideVC.mk (by first | omega | decide | (simp only; omega) | (simp [slS]; done) | (simp [slS]; omega) | (simp only [byteE_len, mvE_len, strE_len, intE_len, esC_len, List.length_cons, List.length_nil, List.length_append, List.length_replicate, List.length_set, Int.toNat_natCast, and_true] at *; omega)) ?_ | refine LoopN.go ?_ | exact trivial | refine AltVC.mk ?_ ?_ | refine HeldVC.mk rfl ?_ | (refine CallVC.ex [1001, 1003, 1004, 1000] rfl h1 ?_; intro es1 hes1; refine ⟨rfl, ?_⟩) | refine OpVC.more tt_ok ?_ | refine RestVC.ext tt_ok ?_)); all_goals (conv => whnf)
    refine LoopVC.mk (G := Nat × Nat × List Mv × List (C × V)) (fun γ => ⟨[(6, .v (i64 γ.1)), (5, .v (i64 γ.2.1)), (1, .v (.c (.fn f [1003, 1004]))), (0, .v (.c (.sl 1001)))],
        [(1001, .sl 45 2 (mvE γ.2.2.1)), (1003, .box 52 [.str g, .mp 1000]), (1004, .box 9 [.str s]), (1000, .ext (.mp none γ.2.2.2))]⟩)
      (fun γ => γ.1 ≤ l.length ∧ γ.2.2.1.length = l.length ∧ γ.2.2.1.drop γ.1 = l.drop γ.1 ∧ γ.2.2.1.take (keepQ l p γ.1).length = keepQ l p γ.1 ∧ (okWays g) γ.2.2.2 ∧ γ.2.1 = (keepQ l p γ.1).length) (fun γ => l.length - γ.1) (i + 1, i, l, es1)
      ⟨by omega, rfl, rfl, by rw [hk0, List.length_take, Nat.min_eq_left (by omega)], hes1, by rw [hk0, List.length_take, Nat.min_eq_left (by omega)]⟩ (Sub.mk [] _ ⟨rfl, rfl, rfl, rfl, trivial⟩ rfl rfl) ?_
    rintro ⟨j, n, R, es⟩ ⟨hj, hR, hdrop, htake, hes, hn⟩
    simp only at hj hR hdrop htake hes hn
    have hmR := mvE_len R
    have hkl := keepQ_len l p j
    by_cases hlt : j < l.length
    · have hRj : R[j]'(by omega) = l[j] := by
        have h2 : (R.drop j)[0]? = (l.drop j)[0]? := by rw [hdrop]
        rw [List.getElem?_drop, List.getElem?_drop, Nat.add_zero, List.getElem?_eq_getElem hlt, List.getElem?_eq_getElem (by omega)] at h2
        exact Option.some.inj h2
      have g1 : (mvE R)[(j : Int).toNat]? = some (mvC l[j]) := by rw [Int.toNat_natCast, mvE_get (by omega), hRj]
      have hr := H _ (List.getElem_mem hlt) es hes
      have hs := keepQ_succ (p := p) hlt
      have hd2 : ∀ R' : List Mv, R'.drop j = l.drop j → R'.drop (j + 1) = l.drop (j + 1) := fun R' h => by
        have e1 : ∀ x : List Mv, x.drop (j + 1) = (x.drop j).drop 1 := fun x => by rw [List.drop_drop]
        rw [e1, e1, h]
      cases hp : p l[j] with
      | true =>
        rw [hp] at hr hs
        simp only [if_true, List.append_nil] at hs
        (repeat' ((conv => whnf); first | refine CondVC.t ?_ | refine CondVC.f ?_ | refine CondVC.dec (fun h => ?_) (fun h => ?_) | refine CondVC.ndec (fun h => ?_) (fun h => ?_) | refine CondVC.mk (fun h => ?_) (fun h => ?_) | refine ArVC.i64 (by first | omega | (simp only; omega)) ?_ | refine SideVC.mk (by first | omega | decide | (simp only; omega) | (simp [slS]; done) | (simp [slS]; omega) | (simp only [byteE_len, mvE_len, strE_len, intE_len, esC_len, List.length_cons, List.length_nil, List.length_append, List.length_replicate, List.length_set, Int.toNat_natCast, and_true] at *; omega)) ?_ | refine LoopN.go ?_ | exact trivial | refine AltVC.mk ?_ ?_ | refine HeldVC.mk rfl ?_ | refine LoadVC.mk _ g1 ?_ | refine SideVC.mk (by rw [hmR]; omega) ?_ | (refine CallVC.ex [1003, 1004, 1000] rfl hr ?_; intro es' hes'; refine ⟨rfl, ?_⟩) | refine OpVC.more tt_ok ?_ | refine RestVC.ext tt_ok ?_)); all_goals (conv => whnf)
        all_goals first
          | (exfalso; simp only [mvE_len] at *; omega)
          | exact ⟨(j + 1, n, R, es'), ⟨by omega, hR, hd2 R hdrop, by simp only [hs]; exact htake, hes', by rw [hs]; exact hn⟩, by simp only; omega, Sub.mk [] _ ⟨rfl, rfl, rfl, rfl, trivial⟩ rfl rfl⟩
      | false =>
        rw [hp] at hr hs
        simp only [Bool.false_eq_true, if_false] at hs
        have hkR : n < R.length := by omega
        have g2 : (mvE R)[(n : Int).toNat]? = some (mvC (R[n]'hkR)) := by rw [Int.toNat_natCast]; exact mvE_get hkR
        have hset : (mvE R).set (n : Int).toNat (mvC l[j]) = mvE (R.set n l[j]) := by rw [Int.toNat_natCast]; simp [mvE]
        have hkl2 : (keepQ l p (j + 1)).length = (keepQ l p j).length + 1 := by rw [hs]; simp
        rw [← hn] at hkl2 htake
        have ht2 : (R.set n l[j]).take (n + 1) = keepQ l p j ++ [l[j]] := by
          rw [List.take_succ_eq_append_getElem (by simpa using hkR), List.getElem_set_self, List.take_set_of_le (Nat.le_refl _), htake]
        have hd3 : (R.set n l[j]).drop (j + 1) = l.drop (j + 1) := by
          rw [List.drop_set_of_lt (by omega)]
          exact hd2 R hdrop
        (repeat' ((conv => whnf); first | refine CondVC.t ?_ | refine CondVC.f ?_ | refine CondVC.dec (fun h => ?_) (fun h => ?_) | refine CondVC.ndec (fun h => ?_) (fun h => ?_) | refine CondVC.mk (fun h => ?_) (fun h => ?_) | refine ArVC.i64 (by first | omega | (simp only; omega)) ?_ | refine SideVC.mk (by first | omega | decide | (simp only; omega) | (simp [slS]; done) | (simp [slS]; omega) | (simp only [byteE_len, mvE_len, strE_len, intE_len, esC_len, List.length_cons, List.length_nil, List.length_append, List.length_replicate, List.length_set, Int.toNat_natCast, and_true] at *; omega)) ?_ | refine LoopN.go ?_ | exact trivial | refine AltVC.mk ?_ ?_ | refine HeldVC.mk rfl ?_ | refine LoadVC.mk _ g1 ?_ | refine LoadVC.mk _ g2 ?_ | refine SideVC.mk (by rw [hmR]; omega) ?_ | (refine CallVC.ex [1003, 1004, 1000] rfl hr ?_; intro es' hes'; refine ⟨rfl, ?_⟩) | refine OpVC.more tt_ok ?_ | refine RestVC.ext tt_ok ?_)); all_goals (conv => whnf)
        all_goals first
          | (exfalso; simp only [mvE_len] at *; omega)
          | exact ⟨(j + 1, n + 1, R.set n l[j], es'), ⟨by omega, by simpa using hR, hd3, by simp only [hkl2]; rw [ht2, hs], hes', hkl2.symm⟩, by simp only; omega, Sub.mk [] _ ⟨rfl, rfl, rfl, rfl, trivial⟩ (by rw [← hset]; rfl) rfl⟩
    · have ej : j = l.length := by omega
      subst ej
      rw [hfull] at hkl htake hn
      subst hn
      generalize l.filter (fun m => !p m) = kp at *
      have hfin : ((mvE R).take ((kp.length : Int).toNat) ++ List.replicate (((mvE R).length : Int).toNat - (kp.length : Int).toNat) [C.int IntKind.i64 0, C.int IntKind.i64 0]).take ((kp.length : Int).toNat - (0 : Int).toNat) = mvE kp := by
        have e1 : (mvE R).take kp.length = mvE kp := by
          rw [← htake]; unfold mvE; rw [List.map_take, htake]
        have e2 : ((kp.length : Int).toNat - (0 : Int).toNat) = kp.length := by simp
        rw [e2, Int.toNat_natCast, e1, List.take_left' (mvE_len kp)]
      (repeat' ((conv => whnf); first | refine CondVC.t ?_ | refine CondVC.f ?_ | refine CondVC.dec (fun h => ?_) (fun h => ?_) | refine CondVC.ndec (fun h => ?_) (fun h => ?_) | refine CondVC.mk (fun h => ?_) (fun h => ?_) | refine ArVC.i64 (by first | omega | (simp only; omega)) ?_ | refine SideVC.mk (by first | omega | decide | (simp only; omega) | (simp [slS]; done) | (simp [slS]; omega) | (simp only [byteE_len, mvE_len, strE_len, intE_len, esC_len, List.length_cons, List.length_nil, List.length_append, List.length_replicate, List.length_set, Int.toNat_natCast, and_true] at *; omega)) ?_ | refine LoopN.go ?_ | exact trivial | refine AltVC.mk ?_ ?_ | refine HeldVC.mk rfl ?_ | refine SideVC.mk (by rw [hmR]; omega) ?_ | refine RestVC2.clear tt_ok rfl rfl rfl rfl (by simp only [mvE_len, Int.toNat_natCast] at *; omega) ?_ | refine OpVC.more tt_ok ?_ | refine RestVC.ext tt_ok ?_)); all_goals (conv => whnf)
      all_goals first
        | (exfalso; simp only [mvE_len] at *; omega)
        | exact RetVC.cutQ 1011 1001 2 _ [.c (.sl 1011)] rfl rfl (by simp [mvE_len]; omega) rfl hfin (RetVC.mk rfl ⟨es, hes, rfl, rfl⟩)


/-! ### Live moves -/
theorem live1_spec (g s : Tx) (m : Mv) (hm : m ∈ movesF s both) (hs : s.length ≤ 1000) : MemoW 62 g s m (decide (wp g (madeF s m) = 0)) := by
  intro es hes
  obtain ⟨i1, i2, i3⟩ := movesF_in hm
  have h1 := made_spec s m i1 i2 (by omega)
  have h2 := ways_all g (madeF s m) (by rw [madeF_len]; exact hs) es hes
  generalize madeF s m = s' at *
  generalize wp g s' = q at *
  unfold swM at *
  refine Spec.of_wpx tt_ok Tryd.func62 (by kernel_rfl) rfl ?_
  (repeat' ((conv => whnf); first | refine CondVC.t ?_ | refine CondVC.f ?_ | refine CondVC.dec (fun h => ?_) (fun h => ?_) | refine CondVC.ndec (fun h => ?_) (fun h => ?_) | refine CondVC.mk (fun h => ?_) (fun h => ?_) | refine ArVC.i64 (by first | omega | (simp only; omega)) ?_ | refine SideVC.mk (by first | omega | decide | (simp only; omega) | (simp [slS]; done) | (simp [slS]; omega) | (simp only [byteE_len, mvE_len, strE_len, intE_len, esC_len, List.length_cons, List.length_nil, List.length_append, List.length_replicate, List.length_set, Int.toNat_natCast, and_true] at *; omega)) ?_ | refine LoopN.go ?_ | exact trivial | refine AltVC.mk ?_ ?_ | refine HeldVC.mk rfl ?_ | refine DrawVC.tree (id := 1) tt_ok [3, 1003, 1004] tr62_1 (by kernel_rfl) (by kernel_rfl) rfl ?_ | refine CallVC.pure h1 rfl ?_ | (refine CallVC.ex [1000] rfl h2 ?_; intro es' hes'; refine ⟨rfl, ?_⟩) | refine OpVC.more tt_ok ?_ | refine RestVC.ext tt_ok ?_)); all_goals (conv => whnf)
  all_goals exact RetVC.mk rfl ⟨es', hes', rfl, rfl⟩
theorem live_spec (g w : Tx) (hw : w.length ≤ 1000) (es : List (C × V)) (hes : okWays g es) : Spec Tryd.prog 42 [.agg [.str g, .mp 1000], .c (.str w)] [(1000, .ext (.mp none es))]
    (exRes (okWays g) (fun _ => [.c (.sl 1011)]) (fun es' => [(1011, .sl 45 2 (mvE (liveF g w))), (1000, .ext (.mp none es'))])) := by
  have h1 := moves_spec w both (by omega)
  have hll := movesF_len w both
  have H : ∀ m ∈ movesF w both, MemoW 62 g w m (decide (wp g (madeF w m) = 0)) := fun m hm => live1_spec g w m hm hw
  have h3 := deleteW_spec 62 g w (movesF w both) (fun m => decide (wp g (madeF w m) = 0)) (by omega) H es hes
  have e : (movesF w both).filter (fun m => !(fun m => decide (wp g (madeF w m) = 0)) m) = liveF g w := rfl
  rw [e] at h3
  unfold swM at h3
  have h4 := Spec.renE [(1003, 2), (1004, 3)] [(2, 1003), (3, 1004)] h3 (fun _ => rfl) (fun _ => rfl) rfl
  generalize liveF g w = bl at *
  generalize movesF w both = l at *
  refine Spec.of_wpx tt_ok Tryd.func42 (by kernel_rfl) rfl ?_
  (repeat' ((conv => whnf); first | refine CondVC.t ?_ | refine CondVC.f ?_ | refine CondVC.dec (fun h => ?_) (fun h => ?_) | refine CondVC.ndec (fun h => ?_) (fun h => ?_) | refine CondVC.mk (fun h => ?_) (fun h => ?_) | refine ArVC.i64 (by first | omega | (simp only; omega)) ?_ | refine SideVC.mk (by first | omega | decide | (simp only; omega) | (simp [slS]; done) | (simp [slS]; omega) | (simp only [byteE_len, mvE_len, strE_len, intE_len, esC_len, List.length_cons, List.length_nil, List.length_append, List.length_replicate, List.length_set, Int.toNat_natCast, and_true] at *; omega)) ?_ | refine LoopN.go ?_ | exact trivial | refine AltVC.mk ?_ ?_ | refine HeldVC.mk rfl ?_ | refine CallVC.res [] rfl h1 rfl ?_ | (refine CallVC.ex [1001, 2, 3, 1000] rfl h4 ?_; intro es' hes'; refine ⟨rfl, ?_⟩) | refine OpVC.more tt_ok ?_ | refine RestVC.ext tt_ok ?_)); all_goals (conv => whnf)
  all_goals exact RetVC.mk rfl ⟨es', hes', rfl, rfl⟩
end Go.Proofs.YtblihaicbhdbdaaDoor.X
