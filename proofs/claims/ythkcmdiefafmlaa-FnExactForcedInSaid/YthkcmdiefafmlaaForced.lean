/- Moves played; exchanges and what lies on them. No condition beyond each statement's. -/
import Derived.Test.YthkcmdiefafmlaaExch
import Derived.Test.YthkcmdiefafmlaaPlayF
namespace Go.Proofs.Ythkcmdiefafmlaa.X
open Go.Proofs
set_option maxRecDepth 100000
set_option linter.unusedVariables false
set_option linter.unusedSimpArgs false

/-- A row cut short is handed over; it stays cut. -/
theorem CallVC.cut {P : Program} {D0 : List Nat} {f : FuncId} {args : List V} {env : Env} {mem rest : Mem} {K : List V → Mem → Prop} {T : TypeId} {es : List (List C)} (z r sz n : Nat) (args' : List V)
    (hv : args = args'.map (V.uncut z r sz n)) (hm : pickL mem [r] = some ([(r, .sl T sz es)], rest)) (hn : n ≤ es.length) (hfr : freshN D0 ((0, .tup args) :: env) rest z = true)
    (h : CallVC P D0 f args' env ((z, .sl T sz (es.take n)) :: rest) K) : CallVC P D0 f args env mem K := by
  constructor
  refine ⟨h.out.1, fun x ρ w R hx hW hk => ?_⟩
  have hfr' := freshN_spec hfr
  subst hv
  have hW' := (hW.perm (pickL_perm hm)).cut (z := z) (hx ▸ hfr'.1) hfr'.2.2 hn
  have := h.out.2 x _ w R hx hW' fun vs m ρ' w' hK hag hW'' => hk vs m ρ' w' hK (fun p hp q hq => (ρ.upd_agree (r := q) fun e => hfr'.2.1 p (List.mem_cons_of_mem _ hp) (by rw [← e]; exact hq)).trans (hag p hp q hq)) hW''
  rw [V.den_list_uncut (by simpa [E.names] using hfr'.2.1 (0, .tup (args'.map (V.uncut z r sz n))) (by simp))]
  exact this

theorem can_spec (w : Tx) (m : Mv) (hw : w.length ≤ 1000000) : Spec Try.prog 48 [.c (.str w), .agg (mvC m)] [] (isRes [vb (canG w m)] []) := by
  have h1 := within_spec m.1 0 ((w.length : Int) - 1)
  unfold canG
  refine Spec.of_wpx tt_ok Try.func48 (by kernel_rfl) rfl ?_
  by_cases hin : 0 ≤ m.1 ∧ m.1 ≤ (w.length : Int) - 1
  · rw [decide_eq_true hin] at h1 ⊢
    obtain ⟨a, b⟩ := m
    simp only at hin h1 ⊢
    obtain ⟨i, rfl⟩ := Int.eq_ofNat_of_zero_le hin.1
    have h2 := goal_spec w i (by omega) (by omega)
    unfold goalV at h2
    cases hg : goalF w i with
    | none =>
      rw [hg] at h2
      (repeat' ((conv => whnf); first | refine CondVC.t ?_ | refine CondVC.f ?_ | refine CondVC.dec (fun h => ?_) (fun h => ?_) | refine CondVC.ndec (fun h => ?_) (fun h => ?_) | refine CondVC.mk (fun h => ?_) (fun h => ?_) | refine ArVC.i64 (by first | omega | (simp only; omega)) ?_ | refine SideVC.mk (by first | omega | decide | (simp only; omega) | (simp [slS]; done) | (simp [slS]; omega) | (simp only [byteE_len, mvE_len, strE_len, intE_len, esC_len, List.length_cons, List.length_nil, List.length_append, List.length_replicate, List.length_set, Int.toNat_natCast, and_true] at *; omega)) ?_ | refine LoopN.go ?_ | exact trivial | refine AltVC.mk ?_ ?_ | refine HeldVC.mk rfl ?_ | refine CallVC.pure h1 rfl ?_ | refine CallVC.pure h2 rfl ?_ | refine OpVC.more tt_ok ?_ | refine RestVC.ext tt_ok ?_)); all_goals (conv => whnf)
      all_goals exact RetVC.res rfl rfl
    | some t =>
      rw [hg] at h2
      (repeat' ((conv => whnf); first | refine CondVC.t ?_ | refine CondVC.f ?_ | refine CondVC.dec (fun h => ?_) (fun h => ?_) | refine CondVC.ndec (fun h => ?_) (fun h => ?_) | refine CondVC.mk (fun h => ?_) (fun h => ?_) | refine ArVC.i64 (by first | omega | (simp only; omega)) ?_ | refine SideVC.mk (by first | omega | decide | (simp only; omega) | (simp [slS]; done) | (simp [slS]; omega) | (simp only [byteE_len, mvE_len, strE_len, intE_len, esC_len, List.length_cons, List.length_nil, List.length_append, List.length_replicate, List.length_set, Int.toNat_natCast, and_true] at *; omega)) ?_ | refine LoopN.go ?_ | exact trivial | refine AltVC.mk ?_ ?_ | refine HeldVC.mk rfl ?_ | refine CallVC.pure h1 rfl ?_ | refine CallVC.pure h2 rfl ?_ | refine OpVC.more tt_ok ?_ | refine RestVC.ext tt_ok ?_)); all_goals (conv => whnf)
      all_goals exact RetVC.res (by simp [vb]) rfl
  · rw [decide_eq_false hin] at h1 ⊢
    (repeat' ((conv => whnf); first | refine CondVC.t ?_ | refine CondVC.f ?_ | refine CondVC.dec (fun h => ?_) (fun h => ?_) | refine CondVC.ndec (fun h => ?_) (fun h => ?_) | refine CondVC.mk (fun h => ?_) (fun h => ?_) | refine ArVC.i64 (by first | omega | (simp only; omega)) ?_ | refine SideVC.mk (by first | omega | decide | (simp only; omega) | (simp [slS]; done) | (simp [slS]; omega) | (simp only [byteE_len, mvE_len, strE_len, intE_len, esC_len, List.length_cons, List.length_nil, List.length_append, List.length_replicate, List.length_set, Int.toNat_natCast, and_true] at *; omega)) ?_ | refine LoopN.go ?_ | exact trivial | refine AltVC.mk ?_ ?_ | refine HeldVC.mk rfl ?_ | refine CallVC.pure h1 rfl ?_ | refine OpVC.more tt_ok ?_ | refine RestVC.ext tt_ok ?_)); all_goals (conv => whnf)
    all_goals exact RetVC.res rfl rfl

theorem played_spec (w : Tx) (l : List Mv) (hw : w.length ≤ 1000) (hl : l.length ≤ 2000000) : Spec Try.prog 46 [.c (.str w), .c (.sl 1000), .c (.fn 48 [])] [(1000, .sl 60 2 (mvE l))]
    (isRes [.c (.str (if cntF w l = l.length then wAt w l l.length else [])), i64 (cntF w l : Nat)] [(1000, .sl 60 2 (mvE l))]) := by
  have hml := mvE_len l
  refine Spec.of_wpx tt_ok Try.func46 (by kernel_rfl) rfl ?_
  (repeat' ((conv => whnf); first | refine CondVC.t ?_ | refine CondVC.f ?_ | refine CondVC.dec (fun h => ?_) (fun h => ?_) | refine CondVC.ndec (fun h => ?_) (fun h => ?_) | refine CondVC.mk (fun h => ?_) (fun h => ?_) | refine ArVC.i64 (by first | omega | (simp only; omega)) ?_ | refine SideVC.mk (by first | omega | decide | (simp only; omega) | (simp [slS]; done) | (simp [slS]; omega) | (simp only [byteE_len, mvE_len, strE_len, intE_len, esC_len, List.length_cons, List.length_nil, List.length_append, List.length_replicate, List.length_set, Int.toNat_natCast, and_true] at *; omega)) ?_ | refine LoopN.go ?_ | exact trivial | refine AltVC.mk ?_ ?_ | refine HeldVC.mk rfl ?_ | refine OpVC.more tt_ok ?_ | refine RestVC.ext tt_ok ?_)); all_goals (conv => whnf)
  refine LoopVC.mk (G := Nat) (fun k => ⟨[(12, .v (i64 k)), (11, .v (i64 l.length)), (10, .v (.c (.sl 1000))), (2, .v (.c (.fn 48 []))), (1, .v (.c (.sl 1000))), (0, .v (.c (.str (wAt w l k))))], [(1000, .sl 60 2 (mvE l))]⟩)
    (fun k => k ≤ l.length ∧ ∀ j (hj : j < l.length), j < k → canG (wAt w l j) l[j] = true) (fun k => l.length - k) 0 ⟨by omega, fun j hj h => by omega⟩ (Sub.mk [] _ ⟨rfl, by rw [hml]; rfl, rfl, rfl, rfl, by rw [wAt_zero]; rfl, trivial⟩ rfl rfl) ?_
  intro k ⟨hk, hall⟩
  by_cases hlt : k < l.length
  · have g1 : (mvE l)[(k : Int).toNat]? = some (mvC l[k]) := by rw [Int.toNat_natCast]; exact mvE_get hlt
    have hwl := wAt_len w l k
    have h1 := can_spec (wAt w l k) l[k] (by omega)
    have hsu := wAt_succ w hlt
    cases hc : canG (wAt w l k) l[k] with
    | true =>
      rw [hc] at h1
      have hin := movesF_in (canG_mem.1 hc)
      have h2 := made_spec (wAt w l k) l[k] hin.1 hin.2.1 (by omega)
      rw [← hsu] at h2
      obtain ⟨w2, hw2⟩ : ∃ w2, w2 = wAt w l (k + 1) := ⟨_, rfl⟩
      rw [← hw2] at h2
      (repeat' ((conv => whnf); first | refine CondVC.t ?_ | refine CondVC.f ?_ | refine CondVC.dec (fun h => ?_) (fun h => ?_) | refine CondVC.ndec (fun h => ?_) (fun h => ?_) | refine CondVC.mk (fun h => ?_) (fun h => ?_) | refine ArVC.i64 (by first | omega | (simp only; omega)) ?_ | refine SideVC.mk (by first | omega | decide | (simp only; omega) | (simp [slS]; done) | (simp [slS]; omega) | (simp only [byteE_len, mvE_len, strE_len, intE_len, esC_len, List.length_cons, List.length_nil, List.length_append, List.length_replicate, List.length_set, Int.toNat_natCast, and_true] at *; omega)) ?_ | refine LoopN.go ?_ | exact trivial | refine AltVC.mk ?_ ?_ | refine HeldVC.mk rfl ?_ | refine LoadVC.mk _ g1 ?_ | refine SideVC.mk (by rw [hml]; omega) ?_ | refine CallVC.pure h1 rfl ?_ | refine CallVC.pure h2 rfl ?_ | refine OpVC.more tt_ok ?_ | refine RestVC.ext tt_ok ?_)); all_goals (conv => whnf)
      all_goals first
        | (exfalso; omega)
        | exact ⟨k + 1, ⟨by omega, fun j hj h => by
            by_cases e : j = k
            · subst e; exact hc
            · exact hall j hj (by omega)⟩, by omega, Sub.mk [] _ ⟨rfl, rfl, rfl, rfl, rfl, by rw [← hw2]; rfl, trivial⟩ rfl rfl⟩
    | false =>
      rw [hc] at h1
      have hcn := cntF_at hlt hall hc
      rw [hcn, if_neg (by omega)]
      (repeat' ((conv => whnf); first | refine CondVC.t ?_ | refine CondVC.f ?_ | refine CondVC.dec (fun h => ?_) (fun h => ?_) | refine CondVC.ndec (fun h => ?_) (fun h => ?_) | refine CondVC.mk (fun h => ?_) (fun h => ?_) | refine ArVC.i64 (by first | omega | (simp only; omega)) ?_ | refine SideVC.mk (by first | omega | decide | (simp only; omega) | (simp [slS]; done) | (simp [slS]; omega) | (simp only [byteE_len, mvE_len, strE_len, intE_len, esC_len, List.length_cons, List.length_nil, List.length_append, List.length_replicate, List.length_set, Int.toNat_natCast, and_true] at *; omega)) ?_ | refine LoopN.go ?_ | exact trivial | refine AltVC.mk ?_ ?_ | refine HeldVC.mk rfl ?_ | refine LoadVC.mk _ g1 ?_ | refine SideVC.mk (by rw [hml]; omega) ?_ | refine CallVC.pure h1 rfl ?_ | refine OpVC.more tt_ok ?_ | refine RestVC.ext tt_ok ?_)); all_goals (conv => whnf)
      all_goals first
        | (exfalso; omega)
        | exact RetVC.res rfl rfl
  · have ek : k = l.length := by omega
    subst ek
    have hcn := cntF_end (w := w) (l := l) fun j hj => hall j hj hj
    rw [hcn, if_pos rfl]
    generalize wAt w l l.length = w3 at *
    (repeat' ((conv => whnf); first | refine CondVC.t ?_ | refine CondVC.f ?_ | refine CondVC.dec (fun h => ?_) (fun h => ?_) | refine CondVC.ndec (fun h => ?_) (fun h => ?_) | refine CondVC.mk (fun h => ?_) (fun h => ?_) | refine ArVC.i64 (by first | omega | (simp only; omega)) ?_ | refine SideVC.mk (by first | omega | decide | (simp only; omega) | (simp [slS]; done) | (simp [slS]; omega) | (simp only [byteE_len, mvE_len, strE_len, intE_len, esC_len, List.length_cons, List.length_nil, List.length_append, List.length_replicate, List.length_set, Int.toNat_natCast, and_true] at *; omega)) ?_ | refine LoopN.go ?_ | exact trivial | refine AltVC.mk ?_ ?_ | refine HeldVC.mk rfl ?_ | refine OpVC.more tt_ok ?_ | refine RestVC.ext tt_ok ?_)); all_goals (conv => whnf)
    all_goals first
      | (exfalso; omega)
      | exact RetVC.res (by rw [hml]; rfl) rfl

theorem liPlay_spec (w : Tx) (l : List Mv) (hok : w.all okCh = true) (hw : w.length ≤ 1000) (hl : l.length ≤ 2000000) : Spec Try.prog 44 [.c (.str w), .c (.sl 1000)] [(1000, .sl 60 2 (mvE l))]
    (isRes [.c (.str (wAt w l (cntF w l))), i64 (cntF w l : Nat)] [(1000, .sl 60 2 (mvE l))]) := by
  have hml := mvE_len l
  refine Spec.of_wpx tt_ok Try.func44 (by kernel_rfl) rfl ?_
  (repeat' ((conv => whnf); first | refine CondVC.t ?_ | refine CondVC.f ?_ | refine CondVC.dec (fun h => ?_) (fun h => ?_) | refine CondVC.ndec (fun h => ?_) (fun h => ?_) | refine CondVC.mk (fun h => ?_) (fun h => ?_) | refine ArVC.i64 (by first | omega | (simp only; omega)) ?_ | refine SideVC.mk (by first | omega | decide | (simp only; omega) | (simp [slS]; done) | (simp [slS]; omega) | (simp only [byteE_len, mvE_len, strE_len, intE_len, esC_len, List.length_cons, List.length_nil, List.length_append, List.length_replicate, List.length_set, Int.toNat_natCast, and_true] at *; omega)) ?_ | refine LoopN.go ?_ | exact trivial | refine AltVC.mk ?_ ?_ | refine HeldVC.mk rfl ?_ | refine OpVC.more tt_ok ?_ | refine RestVC.ext tt_ok ?_)); all_goals (conv => whnf)
  refine LoopVC.mk (G := Nat) (fun k => ⟨[(10, .v (i64 k)), (9, .v (i64 l.length)), (8, .v (.c (.sl 1000))), (1, .v (.c (.sl 1000))), (0, .v (.c (.str (wAt w l k))))], [(1000, .sl 60 2 (mvE l))]⟩)
    (fun k => k ≤ l.length ∧ ∀ j (hj : j < l.length), j < k → canG (wAt w l j) l[j] = true) (fun k => l.length - k) 0 ⟨by omega, fun j hj h => by omega⟩ (Sub.mk [] _ ⟨rfl, by rw [hml]; rfl, rfl, rfl, by rw [wAt_zero]; rfl, trivial⟩ rfl rfl) ?_
  intro k ⟨hk, hall⟩
  by_cases hlt : k < l.length
  · have g1 : (mvE l)[(k : Int).toNat]? = some (mvC l[k]) := by rw [Int.toNat_natCast]; exact mvE_get hlt
    have hwl := wAt_len w l k
    have h1 := liCan_spec (wAt w l k) l[k] (by omega)
    have hokk := (wAt_ok hok k (by omega) hall).1
    rw [canF_eq hokk] at h1
    have hsu := wAt_succ w hlt
    cases hc : canG (wAt w l k) l[k] with
    | true =>
      rw [hc] at h1
      have hin := movesF_in (canG_mem.1 hc)
      have h2 := liMake_spec (wAt w l k) l[k] hin.1 hin.2.1 hin.2.2 (by omega)
      rw [← hsu] at h2
      obtain ⟨w2, hw2⟩ : ∃ w2, w2 = wAt w l (k + 1) := ⟨_, rfl⟩
      rw [← hw2] at h2
      (repeat' ((conv => whnf); first | refine CondVC.t ?_ | refine CondVC.f ?_ | refine CondVC.dec (fun h => ?_) (fun h => ?_) | refine CondVC.ndec (fun h => ?_) (fun h => ?_) | refine CondVC.mk (fun h => ?_) (fun h => ?_) | refine ArVC.i64 (by first | omega | (simp only; omega)) ?_ | refine SideVC.mk (by first | omega | decide | (simp only; omega) | (simp [slS]; done) | (simp [slS]; omega) | (simp only [byteE_len, mvE_len, strE_len, intE_len, esC_len, List.length_cons, List.length_nil, List.length_append, List.length_replicate, List.length_set, Int.toNat_natCast, and_true] at *; omega)) ?_ | refine LoopN.go ?_ | exact trivial | refine AltVC.mk ?_ ?_ | refine HeldVC.mk rfl ?_ | refine LoadVC.mk _ g1 ?_ | refine SideVC.mk (by rw [hml]; omega) ?_ | refine CallVC.pure h1 rfl ?_ | refine CallVC.pure h2 rfl ?_ | refine OpVC.more tt_ok ?_ | refine RestVC.ext tt_ok ?_)); all_goals (conv => whnf)
      all_goals first
        | (exfalso; omega)
        | exact ⟨k + 1, ⟨by omega, fun j hj h => by
            by_cases e : j = k
            · subst e; exact hc
            · exact hall j hj (by omega)⟩, by omega, Sub.mk [] _ ⟨rfl, rfl, rfl, rfl, by rw [← hw2]; rfl, trivial⟩ rfl rfl⟩
    | false =>
      rw [hc] at h1
      have hcn := cntF_at hlt hall hc
      rw [hcn]
      (repeat' ((conv => whnf); first | refine CondVC.t ?_ | refine CondVC.f ?_ | refine CondVC.dec (fun h => ?_) (fun h => ?_) | refine CondVC.ndec (fun h => ?_) (fun h => ?_) | refine CondVC.mk (fun h => ?_) (fun h => ?_) | refine ArVC.i64 (by first | omega | (simp only; omega)) ?_ | refine SideVC.mk (by first | omega | decide | (simp only; omega) | (simp [slS]; done) | (simp [slS]; omega) | (simp only [byteE_len, mvE_len, strE_len, intE_len, esC_len, List.length_cons, List.length_nil, List.length_append, List.length_replicate, List.length_set, Int.toNat_natCast, and_true] at *; omega)) ?_ | refine LoopN.go ?_ | exact trivial | refine AltVC.mk ?_ ?_ | refine HeldVC.mk rfl ?_ | refine LoadVC.mk _ g1 ?_ | refine SideVC.mk (by rw [hml]; omega) ?_ | refine CallVC.pure h1 rfl ?_ | refine OpVC.more tt_ok ?_ | refine RestVC.ext tt_ok ?_)); all_goals (conv => whnf)
      all_goals first
        | (exfalso; omega)
        | exact RetVC.res rfl rfl
  · have ek : k = l.length := by omega
    subst ek
    have hcn := cntF_end (w := w) (l := l) fun j hj => hall j hj hj
    rw [hcn]
    generalize wAt w l l.length = w3 at *
    (repeat' ((conv => whnf); first | refine CondVC.t ?_ | refine CondVC.f ?_ | refine CondVC.dec (fun h => ?_) (fun h => ?_) | refine CondVC.ndec (fun h => ?_) (fun h => ?_) | refine CondVC.mk (fun h => ?_) (fun h => ?_) | refine ArVC.i64 (by first | omega | (simp only; omega)) ?_ | refine SideVC.mk (by first | omega | decide | (simp only; omega) | (simp [slS]; done) | (simp [slS]; omega) | (simp only [byteE_len, mvE_len, strE_len, intE_len, esC_len, List.length_cons, List.length_nil, List.length_append, List.length_replicate, List.length_set, Int.toNat_natCast, and_true] at *; omega)) ?_ | refine LoopN.go ?_ | exact trivial | refine AltVC.mk ?_ ?_ | refine HeldVC.mk rfl ?_ | refine OpVC.more tt_ok ?_ | refine RestVC.ext tt_ok ?_)); all_goals (conv => whnf)
    all_goals first
      | (exfalso; omega)
      | exact RetVC.res (by rw [hml]; rfl) rfl

/-! ### A line on the first exchange -/
def lineXOk (x y z k : Int) : Bool := exchOk x y z && decide (0 ≤ k ∧ k ≤ ((exchL false x y z).length : Int))
def lineXF (x y z k : Int) : Tx := if lineXOk x y z k then wAt (firstF x.toNat y.toNat z.toNat) (exchL false x y z) k.toNat else []
theorem exchL_legal {x y z : Int} (h : exchOk x y z = true) (last : Bool) : ∃ a b c : Nat, x = a ∧ y = b ∧ z = c ∧ a + b + c ≤ 8 ∧ cntF (firstF a b c) (exchL last x y z) = (exchL last x y z).length := by
  have h' := h
  simp only [exchOk, Bool.and_eq_true] at h
  obtain ⟨a, b, c, rfl, rfl, rfl, hge, hle⟩ := nums_cast h.1
  refine ⟨a, b, c, rfl, rfl, rfl, by omega, ?_⟩
  unfold exchL
  rw [h', if_pos rfl]
  simp only [Int.toNat_natCast]
  exact exch_legal last _ _ _ rfl
theorem implLineInExchange_spec (x y z k : Int) : Spec Try.prog 20 [i64 x, i64 y, i64 z, i64 k] [] (isRes [.c (.str (lineXF x y z k)), vb (lineXOk x y z k)] []) := by
  have h1 := Spec.ren [(1001, 2001)] [(2001, 1001)] (implFirstExchange_spec x y z) rfl rfl rfl
  have hl := exchL_len false x y z
  unfold lineXF lineXOk
  refine Spec.of_wpx tt_ok Try.func20 (by kernel_rfl) rfl ?_
  cases hq : exchOk x y z with
  | false =>
    rw [hq] at h1
    rw [Bool.false_and, if_neg Bool.false_ne_true]
    generalize exchL false x y z = l at *
    (repeat' ((conv => whnf); first | refine CondVC.t ?_ | refine CondVC.f ?_ | refine CondVC.dec (fun h => ?_) (fun h => ?_) | refine CondVC.ndec (fun h => ?_) (fun h => ?_) | refine CondVC.mk (fun h => ?_) (fun h => ?_) | refine ArVC.i64 (by first | omega | (simp only; omega)) ?_ | refine SideVC.mk (by first | omega | decide | (simp only; omega) | (simp [slS]; done) | (simp [slS]; omega) | (simp only [byteE_len, mvE_len, strE_len, intE_len, esC_len, List.length_cons, List.length_nil, List.length_append, List.length_replicate, List.length_set, Int.toNat_natCast, and_true] at *; omega)) ?_ | refine LoopN.go ?_ | exact trivial | refine AltVC.mk ?_ ?_ | refine HeldVC.mk rfl ?_ | refine CallVC.res [] rfl h1 rfl ?_ | refine OpVC.more tt_ok ?_ | refine RestVC.ext tt_ok ?_)); all_goals (conv => whnf)
    all_goals exact RetVC.res rfl rfl
  | true =>
    obtain ⟨a, b, c, rfl, rfl, rfl, hle, hleg⟩ := exchL_legal hq false
    rw [hq] at h1
    simp only [Int.toNat_natCast, Bool.true_and]
    have hfl := firstF_len a b c
    have h2 := implFirst_spec a b c (by omega) (by omega) (by omega)
    generalize exchL false a b c = l at *
    generalize firstF a b c = w at *
    have hml := mvE_len l
    have h3 := within_spec k 0 (l.length : Int)
    by_cases hk : 0 ≤ k ∧ k ≤ (l.length : Int)
    · rw [decide_eq_true hk] at h3 ⊢
      rw [if_pos rfl]
      obtain ⟨j, rfl⟩ := Int.eq_ofNat_of_zero_le hk.1
      have hj : j ≤ l.length := by omega
      simp only [Int.toNat_natCast]
      have h4 := played_spec w (l.take j) (by omega) (by simp; omega)
      rw [cntF_take hj hleg, List.length_take, Nat.min_eq_left hj, if_pos rfl, wAt_take w l (Nat.le_refl _)] at h4
      have h4 := Spec.ren [(1000, 2002)] [(2002, 1000)] h4 rfl rfl rfl
      rw [← hml] at h3
      have htk : mvE (l.take j) = (mvE l).take j := by unfold mvE; rw [List.map_take]
      rw [htk] at h4
      generalize wAt w l j = w3 at *
      (repeat' ((conv => whnf); first | refine CondVC.t ?_ | refine CondVC.f ?_ | refine CondVC.dec (fun h => ?_) (fun h => ?_) | refine CondVC.ndec (fun h => ?_) (fun h => ?_) | refine CondVC.mk (fun h => ?_) (fun h => ?_) | refine ArVC.i64 (by first | omega | (simp only; omega)) ?_ | refine SideVC.mk (by first | omega | decide | (simp only; omega) | (simp [slS]; done) | (simp [slS]; omega) | (simp only [byteE_len, mvE_len, strE_len, intE_len, esC_len, List.length_cons, List.length_nil, List.length_append, List.length_replicate, List.length_set, Int.toNat_natCast, and_true] at *; omega)) ?_ | refine LoopN.go ?_ | exact trivial | refine AltVC.mk ?_ ?_ | refine HeldVC.mk rfl ?_ | refine CallVC.res [] rfl h1 rfl ?_ | refine CallVC.pure h3 rfl ?_ | refine DrawVC.tree (id := 4) tt_ok [] tr20_4 (by kernel_rfl) (by kernel_rfl) rfl ?_ | refine CallVC.pure h2 rfl ?_ | refine SideVC.mk (by rw [hml]; omega) ?_ | (refine CallVC.cut 2002 2001 2 j [.c (.str w), .c (.sl 2002), .c (.fn 48 [])] rfl rfl (by rw [hml]; exact hj) rfl ?_; refine CallVC.res [2002] rfl h4 rfl ?_) | refine OpVC.more tt_ok ?_ | refine RestVC.ext tt_ok ?_)); all_goals (conv => whnf)
      all_goals exact RetVC.res rfl rfl
    · rw [decide_eq_false hk] at h3 ⊢
      rw [if_neg Bool.false_ne_true]
      rw [← hml] at h3
      (repeat' ((conv => whnf); first | refine CondVC.t ?_ | refine CondVC.f ?_ | refine CondVC.dec (fun h => ?_) (fun h => ?_) | refine CondVC.ndec (fun h => ?_) (fun h => ?_) | refine CondVC.mk (fun h => ?_) (fun h => ?_) | refine ArVC.i64 (by first | omega | (simp only; omega)) ?_ | refine SideVC.mk (by first | omega | decide | (simp only; omega) | (simp [slS]; done) | (simp [slS]; omega) | (simp only [byteE_len, mvE_len, strE_len, intE_len, esC_len, List.length_cons, List.length_nil, List.length_append, List.length_replicate, List.length_set, Int.toNat_natCast, and_true] at *; omega)) ?_ | refine LoopN.go ?_ | exact trivial | refine AltVC.mk ?_ ?_ | refine HeldVC.mk rfl ?_ | refine CallVC.res [] rfl h1 rfl ?_ | refine CallVC.pure h3 rfl ?_ | refine OpVC.more tt_ok ?_ | refine RestVC.ext tt_ok ?_)); all_goals (conv => whnf)
      all_goals exact RetVC.res rfl rfl
theorem specLineInExchange_spec (x y z k : Int) : Spec Try.prog 19 [i64 x, i64 y, i64 z, i64 k] [] (isRes [.c (.str (lineXF x y z k)), vb (lineXOk x y z k)] []) := by
  have h1 := Spec.ren [(1001, 2001)] [(2001, 1001)] (specFirstExchange_spec x y z) rfl rfl rfl
  have hl := exchL_len false x y z
  unfold lineXF lineXOk
  refine Spec.of_wpx tt_ok Try.func19 (by kernel_rfl) rfl ?_
  cases hq : exchOk x y z with
  | false =>
    rw [hq] at h1
    rw [Bool.false_and, if_neg Bool.false_ne_true]
    generalize exchL false x y z = l at *
    (repeat' ((conv => whnf); first | refine CondVC.t ?_ | refine CondVC.f ?_ | refine CondVC.dec (fun h => ?_) (fun h => ?_) | refine CondVC.ndec (fun h => ?_) (fun h => ?_) | refine CondVC.mk (fun h => ?_) (fun h => ?_) | refine ArVC.i64 (by first | omega | (simp only; omega)) ?_ | refine SideVC.mk (by first | omega | decide | (simp only; omega) | (simp [slS]; done) | (simp [slS]; omega) | (simp only [byteE_len, mvE_len, strE_len, intE_len, esC_len, List.length_cons, List.length_nil, List.length_append, List.length_replicate, List.length_set, Int.toNat_natCast, and_true] at *; omega)) ?_ | refine LoopN.go ?_ | exact trivial | refine AltVC.mk ?_ ?_ | refine HeldVC.mk rfl ?_ | refine CallVC.res [] rfl h1 rfl ?_ | refine OpVC.more tt_ok ?_ | refine RestVC.ext tt_ok ?_)); all_goals (conv => whnf)
    all_goals exact RetVC.res rfl rfl
  | true =>
    obtain ⟨a, b, c, rfl, rfl, rfl, hle, hleg⟩ := exchL_legal hq false
    rw [hq] at h1
    simp only [Int.toNat_natCast, Bool.true_and]
    have hfl := firstF_len a b c
    have hok := firstF_ok a b c
    have h2 := liFirst_spec a b c (by omega) (by omega) (by omega)
    generalize exchL false a b c = l at *
    generalize firstF a b c = w at *
    have hml := mvE_len l
    have h3 := l1In_spec k 0 (l.length : Int)
    by_cases hk : 0 ≤ k ∧ k ≤ (l.length : Int)
    · rw [decide_eq_true hk] at h3 ⊢
      rw [if_pos rfl]
      obtain ⟨j, rfl⟩ := Int.eq_ofNat_of_zero_le hk.1
      have hj : j ≤ l.length := by omega
      simp only [Int.toNat_natCast]
      have h4 := liPlay_spec w (l.take j) hok (by omega) (by simp; omega)
      rw [cntF_take hj hleg, wAt_take w l (Nat.le_refl _)] at h4
      have h4 := Spec.ren [(1000, 2002)] [(2002, 1000)] h4 rfl rfl rfl
      rw [← hml] at h3
      have htk : mvE (l.take j) = (mvE l).take j := by unfold mvE; rw [List.map_take]
      rw [htk] at h4
      generalize wAt w l j = w3 at *
      (repeat' ((conv => whnf); first | refine CondVC.t ?_ | refine CondVC.f ?_ | refine CondVC.dec (fun h => ?_) (fun h => ?_) | refine CondVC.ndec (fun h => ?_) (fun h => ?_) | refine CondVC.mk (fun h => ?_) (fun h => ?_) | refine ArVC.i64 (by first | omega | (simp only; omega)) ?_ | refine SideVC.mk (by first | omega | decide | (simp only; omega) | (simp [slS]; done) | (simp [slS]; omega) | (simp only [byteE_len, mvE_len, strE_len, intE_len, esC_len, List.length_cons, List.length_nil, List.length_append, List.length_replicate, List.length_set, Int.toNat_natCast, and_true] at *; omega)) ?_ | refine LoopN.go ?_ | exact trivial | refine AltVC.mk ?_ ?_ | refine HeldVC.mk rfl ?_ | refine CallVC.res [] rfl h1 rfl ?_ | refine CallVC.pure h3 rfl ?_ | refine DrawVC.tree (id := 4) tt_ok [] tr19_4 (by kernel_rfl) (by kernel_rfl) rfl ?_ | refine CallVC.pure h2 rfl ?_ | refine SideVC.mk (by rw [hml]; omega) ?_ | (refine CallVC.cut 2002 2001 2 j [.c (.str w), .c (.sl 2002)] rfl rfl (by rw [hml]; exact hj) rfl ?_; refine CallVC.res [2002] rfl h4 rfl ?_) | refine OpVC.more tt_ok ?_ | refine RestVC.ext tt_ok ?_)); all_goals (conv => whnf)
      all_goals exact RetVC.res rfl rfl
    · rw [decide_eq_false hk] at h3 ⊢
      rw [if_neg Bool.false_ne_true]
      rw [← hml] at h3
      (repeat' ((conv => whnf); first | refine CondVC.t ?_ | refine CondVC.f ?_ | refine CondVC.dec (fun h => ?_) (fun h => ?_) | refine CondVC.ndec (fun h => ?_) (fun h => ?_) | refine CondVC.mk (fun h => ?_) (fun h => ?_) | refine ArVC.i64 (by first | omega | (simp only; omega)) ?_ | refine SideVC.mk (by first | omega | decide | (simp only; omega) | (simp [slS]; done) | (simp [slS]; omega) | (simp only [byteE_len, mvE_len, strE_len, intE_len, esC_len, List.length_cons, List.length_nil, List.length_append, List.length_replicate, List.length_set, Int.toNat_natCast, and_true] at *; omega)) ?_ | refine LoopN.go ?_ | exact trivial | refine AltVC.mk ?_ ?_ | refine HeldVC.mk rfl ?_ | refine CallVC.res [] rfl h1 rfl ?_ | refine CallVC.pure h3 rfl ?_ | refine OpVC.more tt_ok ?_ | refine RestVC.ext tt_ok ?_)); all_goals (conv => whnf)
      all_goals exact RetVC.res rfl rfl
theorem lawLineInExchange_spec (x y z k : Int) : Spec Try.prog 6 [i64 x, i64 y, i64 z, i64 k] [] (isRes [vb true] []) := by
  have h1 := specLineInExchange_spec x y z k
  have h2 := implLineInExchange_spec x y z k
  generalize lineXF x y z k = q at *
  generalize lineXOk x y z k = b at *
  refine Spec.of_wpx tt_ok Try.func6 (by kernel_rfl) rfl ?_
  cases b
  all_goals
    (repeat' ((conv => whnf); first | refine CondVC.t ?_ | refine CondVC.f ?_ | refine CondVC.dec (fun h => ?_) (fun h => ?_) | refine CondVC.ndec (fun h => ?_) (fun h => ?_) | refine CondVC.mk (fun h => ?_) (fun h => ?_) | refine ArVC.i64 (by first | omega | (simp only; omega)) ?_ | refine SideVC.mk (by first | omega | decide | (simp only; omega) | (simp [slS]; done) | (simp [slS]; omega) | (simp only [byteE_len, mvE_len, strE_len, intE_len, esC_len, List.length_cons, List.length_nil, List.length_append, List.length_replicate, List.length_set, Int.toNat_natCast, and_true] at *; omega)) ?_ | refine LoopN.go ?_ | exact trivial | refine AltVC.mk ?_ ?_ | refine HeldVC.mk rfl ?_ | refine CallVC.pure h1 rfl ?_ | refine CallVC.pure h2 rfl ?_ | refine OpVC.more tt_ok ?_ | refine RestVC.ext tt_ok ?_)); all_goals (conv => whnf)
    all_goals first | exact RetVC.res rfl rfl | (exfalso; simp_all; done)
end Go.Proofs.Ythkcmdiefafmlaa.X
